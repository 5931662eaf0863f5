/-
  The program's ResolveDesign returns what the reference's returns: the statement FnExactResolveDesignSaid. Conditions: none.
-/
import Derived.Test.YthgbfgdnljgicabRows
import Derived.Test.YthgbfgdnljgicabRslH
import Derived.Test.YthgbfgdnljgicabRslW
import Derived.Test.YthgbfgdnljgicabDFrame
import Derived.Test.YthgbfgdnljgicabDsg
import Derived.Deep.RegionHeld3
namespace Go.Proofs.Ythgbfgdnljgicab.lawResolveDesign
open Go.ChangeShapes Go.WideShapes Go.ChangeAt Go.RowKit Go.Deep
set_option linter.unusedVariables false
set_option linter.unusedSimpArgs false

theorem own : ownKnob Try.prog.godebug = none := by kernel_rfl
theorem laidOut : laidOutB Try.prog = true := by kernel_rfl

set_option maxHeartbeats 400000 in
theorem walkOut0 (w : World) (x0 : Int) (hb0 : -9223372036854775808 ≤ x0 ∧ x0 ≤ 9223372036854775807) (A0 : Option Addr) (n0 c0 : Nat) (R0 : Spine) (xs0 : List (List Int)) (hr0 : RdM w A0 c0 R0 xs0) (hn0 : xs0.length = n0) (hw0 : WfM xs0) (x1 : Int) (hb1 : -9223372036854775808 ≤ x1 ∧ x1 ≤ 9223372036854775807) (hz : 1048576 < ((n0 : Int) + (tot xs0 : Nat))) :
    Calls Try.prog 3 #[.agg #[.int .i64 x0, .slice A0 n0 c0], .int .i64 x1] w fun e w' => e = .returned (.bool true) ∧ Below w.heap.size w w' := by
  have HR0 := Lib.hid hr0
  have HN0 := Lib.hid hn0
  have hm0 : n0 ≤ 9223372036854775807 := by have h1 := hr0.le; have h2 := hr0.cap; unfold maxLen at h2; omega
  clear hr0 hn0
  go_enter Try.func3, Try.ntmps3
  go_wp2_with fail
  have hb : Below w.heap.size w (w.alloc (.cells #[.int .i64 x0, .slice A0 n0 c0] 24)) := (below_boxed _ _)
  have qd0 : w.heap.size < (w.alloc (.cells #[.int .i64 x0, .slice A0 n0 c0] 24)).heap.size := by simp <;> omega
  have bd00_1 : (w.alloc (.cells #[.int .i64 x0, .slice A0 n0 c0] 24)).cell? ⟨w.heap.size, 0, none⟩ = some (.int .i64 x0) := by simp [go_sem]
  have bd01_1 : (w.alloc (.cells #[.int .i64 x0, .slice A0 n0 c0] 24)).cell? ⟨w.heap.size, 1, none⟩ = some (.slice A0 n0 c0) := by simp [go_sem]
  generalize (w.alloc (.cells #[.int .i64 x0, .slice A0 n0 c0] 24)) = w1 at *
  have z1 : w.heap.size ≤ w1.heap.size := hb.size
  have B1 : Below w.heap.size w w1 := (hb.mono (by omega))
  clear hb
  go_wp2_with fail
  refine (szD_out w1 x0 A0 n0 c0 R0 xs0 (1048576) ((HR0.out).below B1) (HN0.out) (by omega) (by omega) (by omega)).mono ?_
  rintro e w2 ⟨rfl, hb⟩
  have z2 : w1.heap.size ≤ w2.heap.size := hb.size
  have B2 : Below w.heap.size w w2 := B1.trans (hb.mono (by omega))
  have bd00_2 := (hb.cell (p := ⟨w.heap.size, 0, none⟩) (by show w.heap.size < _; omega)).trans bd00_1
  clear bd00_1
  have bd01_2 := (hb.cell (p := ⟨w.heap.size, 1, none⟩) (by show w.heap.size < _; omega)).trans bd01_1
  clear bd01_1
  clear hb
  go_wp2
  go_ret
  exact ⟨rfl, B2⟩

set_option maxHeartbeats 4000000 in
set_option maxRecDepth 100000 in
theorem walkIn (w : World) (x0 : Int) (hb0 : -9223372036854775808 ≤ x0 ∧ x0 ≤ 9223372036854775807) (A0 : Option Addr) (n0 c0 : Nat) (R0 : Spine) (xs0 : List (List Int)) (hr0 : RdM w A0 c0 R0 xs0) (hn0 : xs0.length = n0) (hw0 : WfM xs0) (x1 : Int) (hb1 : -9223372036854775808 ≤ x1 ∧ x1 ≤ 9223372036854775807) (hz0 : ((n0 : Int) + (tot xs0 : Nat)) ≤ 1048576) :
    Calls Try.prog 3 #[.agg #[.int .i64 x0, .slice A0 n0 c0], .int .i64 x1] w fun e w' => e = .returned (.bool true) ∧ Below w.heap.size w w' := by
  have hsmall : (rsX x0 xs0 x1).length ≤ 1048576 := (ResolveDesign_small x0 xs0 x1).1
  have HS : tot (rsX x0 xs0 x1) ≤ 1048576 := (ResolveDesign_small x0 xs0 x1).2
  have HT0 : tot xs0 ≤ 1048576 := by omega
  have HR0 := Lib.hid hr0
  have HN0 := Lib.hid hn0
  have hm0 : n0 ≤ 9223372036854775807 := by have h1 := hr0.le; have h2 := hr0.cap; unfold maxLen at h2; omega
  clear hr0 hn0
  go_enter Try.func3, Try.ntmps3
  go_wp2_with fail
  have hb : Below w.heap.size w (w.alloc (.cells #[.int .i64 x0, .slice A0 n0 c0] 24)) := (below_boxed _ _)
  have qd0 : w.heap.size < (w.alloc (.cells #[.int .i64 x0, .slice A0 n0 c0] 24)).heap.size := by simp <;> omega
  have bd00_1 : (w.alloc (.cells #[.int .i64 x0, .slice A0 n0 c0] 24)).cell? ⟨w.heap.size, 0, none⟩ = some (.int .i64 x0) := by simp [go_sem]
  have bd01_1 : (w.alloc (.cells #[.int .i64 x0, .slice A0 n0 c0] 24)).cell? ⟨w.heap.size, 1, none⟩ = some (.slice A0 n0 c0) := by simp [go_sem]
  generalize (w.alloc (.cells #[.int .i64 x0, .slice A0 n0 c0] 24)) = w1 at *
  have z1 : w.heap.size ≤ w1.heap.size := hb.size
  have B1 : Below w.heap.size w w1 := (hb.mono (by omega))
  clear hb
  go_wp2_with fail
  refine (szD_in w1 x0 A0 n0 c0 R0 xs0 (1048576) ((HR0.out).below B1) (HN0.out) (by omega) (by omega)).mono ?_
  rintro e w2 ⟨rfl, hb⟩
  have z2 : w1.heap.size ≤ w2.heap.size := hb.size
  have B2 : Below w.heap.size w w2 := B1.trans (hb.mono (by omega))
  have bd00_2 := (hb.cell (p := ⟨w.heap.size, 0, none⟩) (by show w.heap.size < _; omega)).trans bd00_1
  clear bd00_1
  have bd01_2 := (hb.cell (p := ⟨w.heap.size, 1, none⟩) (by show w.heap.size < _; omega)).trans bd01_1
  clear bd01_1
  clear hb
  go_wp2_with fail
  refine (toD w2 x0 A0 n0 c0 R0 xs0 ((HR0.out).below B2) (HN0.out) (by omega) (fun k hk => by have := row_small HT0 k (by rw [HN0.out]; exact hk); omega)).mono ?_
  rintro e w3 ⟨⟨p0A, p0R, rfl, ho⟩, hb⟩
  have z3 : w2.heap.size ≤ w3.heap.size := hb.size
  have B3 : Below w.heap.size w w3 := B2.trans (hb.mono (by omega))
  have bd00_3 := (hb.cell (p := ⟨w.heap.size, 0, none⟩) (by show w.heap.size < _; omega)).trans bd00_2
  clear bd00_2
  have bd01_3 := (hb.cell (p := ⟨w.heap.size, 1, none⟩) (by show w.heap.size < _; omega)).trans bd01_2
  clear bd01_2
  clear hb
  have p0_3 := Lib.hid ho.in_
  clear ho
  go_wp2_with fail
  refine (specResolveDesign_c w3 x0 hb0 p0A n0 n0 p0R xs0 p0_3.out.own.rd (HN0.out) hw0 (by omega) x1 hb1).mono ?_
  rintro e w4 ⟨⟨w0A, w0n, w0c, w0R, rfl, w0hn, ho⟩, hb⟩
  have HL := Lib.hid w0hn
  have hsm : w0n ≤ 1048576 := by have := hsmall; have h2 := HL.out; omega
  clear w0hn
  have z4 : w3.heap.size ≤ w4.heap.size := hb.size
  have B4 : Below w.heap.size w w4 := B3.trans (hb.mono (by omega))
  have p0_4 := Lib.hid (p0_3.out.step (w' := w4) (fun k h1 h2 => hb.block k (by omega)))
  clear p0_3
  have bd00_4 := (hb.cell (p := ⟨w.heap.size, 0, none⟩) (by show w.heap.size < _; omega)).trans bd00_3
  clear bd00_3
  have bd01_4 := (hb.cell (p := ⟨w.heap.size, 1, none⟩) (by show w.heap.size < _; omega)).trans bd01_3
  clear bd01_3
  clear hb
  have w0_4 := Lib.hid ho.in_
  clear ho
  go_wp2_with fail
  refine (toD w4 x0 A0 n0 c0 R0 xs0 ((HR0.out).below B4) (HN0.out) (by omega) (fun k hk => by have := row_small HT0 k (by rw [HN0.out]; exact hk); omega)).mono ?_
  rintro e w5 ⟨⟨x0A, x0R, rfl, ho⟩, hb⟩
  have z5 : w4.heap.size ≤ w5.heap.size := hb.size
  have B5 : Below w.heap.size w w5 := B4.trans (hb.mono (by omega))
  have p0_5 := Lib.hid (p0_4.out.step (w' := w5) (fun k h1 h2 => hb.block k (by omega)))
  clear p0_4
  have w0_5 := Lib.hid (w0_4.out.step (w' := w5) (fun k h1 h2 => hb.block k (by omega)))
  clear w0_4
  have bd00_5 := (hb.cell (p := ⟨w.heap.size, 0, none⟩) (by show w.heap.size < _; omega)).trans bd00_4
  clear bd00_4
  have bd01_5 := (hb.cell (p := ⟨w.heap.size, 1, none⟩) (by show w.heap.size < _; omega)).trans bd01_4
  clear bd01_4
  clear hb
  have x0_5 := Lib.hid ho.in_
  clear ho
  have hb : Below w5.heap.size w5 (w5.alloc (.cells #[.int .i64 x0, .slice x0A n0 n0] 28)) := below_boxed _ _
  have qx0 : w5.heap.size < (w5.alloc (.cells #[.int .i64 x0, .slice x0A n0 n0] 28)).heap.size := by simp
  have bx00_6 : (w5.alloc (.cells #[.int .i64 x0, .slice x0A n0 n0] 28)).cell? ⟨w5.heap.size, 0, none⟩ = some (.int .i64 x0) := by simp [go_sem]
  have bx01_6 : (w5.alloc (.cells #[.int .i64 x0, .slice x0A n0 n0] 28)).cell? ⟨w5.heap.size, 1, none⟩ = some (.slice x0A n0 n0) := by simp [go_sem]
  have ed00 := (hb.cell (p := ⟨w.heap.size, 0, none⟩) (by show w.heap.size < _; omega)).trans bd00_5
  have ed01 := (hb.cell (p := ⟨w.heap.size, 1, none⟩) (by show w.heap.size < _; omega)).trans bd01_5
  go_wp2_with fail
  clear ed00 ed01
  generalize (w5.alloc (.cells #[.int .i64 x0, .slice x0A n0 n0] 28)) = w6 at *
  have z6 : w5.heap.size ≤ w6.heap.size := hb.size
  have B6 : Below w.heap.size w w6 := B5.trans (hb.mono (by omega))
  have p0_6 := Lib.hid (p0_5.out.step (w' := w6) (fun k h1 h2 => hb.block k (by omega)))
  clear p0_5
  have w0_6 := Lib.hid (w0_5.out.step (w' := w6) (fun k h1 h2 => hb.block k (by omega)))
  clear w0_5
  have x0_6 := Lib.hid (x0_5.out.step (w' := w6) (fun k h1 h2 => hb.block k (by omega)))
  clear x0_5
  have bd00_6 := (hb.cell (p := ⟨w.heap.size, 0, none⟩) (by show w.heap.size < _; omega)).trans bd00_5
  clear bd00_5
  have bd01_6 := (hb.cell (p := ⟨w.heap.size, 1, none⟩) (by show w.heap.size < _; omega)).trans bd01_5
  clear bd01_5
  clear hb
  go_wp2_with fail
  refine (implResolveDesign_c w6 x0 hb0 x0A n0 n0 x0R xs0 x0_6.out.own.rd (HN0.out) hw0 (by omega) x1 hb1).mono ?_
  rintro e w7 ⟨⟨g0A, g0n, g0c, g0R, rfl, g0hn, ho⟩, hb⟩
  obtain rfl : w0n = g0n := HL.out.symm.trans g0hn
  clear g0hn
  have z7 : w6.heap.size ≤ w7.heap.size := hb.size
  have B7 : Below w.heap.size w w7 := B6.trans (hb.mono (by omega))
  have p0_7 := Lib.hid (p0_6.out.step (w' := w7) (fun k h1 h2 => hb.block k (by omega)))
  clear p0_6
  have w0_7 := Lib.hid (w0_6.out.step (w' := w7) (fun k h1 h2 => hb.block k (by omega)))
  clear w0_6
  have x0_7 := Lib.hid (x0_6.out.step (w' := w7) (fun k h1 h2 => hb.block k (by omega)))
  clear x0_6
  have bd00_7 := (hb.cell (p := ⟨w.heap.size, 0, none⟩) (by show w.heap.size < _; omega)).trans bd00_6
  clear bd00_6
  have bd01_7 := (hb.cell (p := ⟨w.heap.size, 1, none⟩) (by show w.heap.size < _; omega)).trans bd01_6
  clear bd01_6
  have bx00_7 := (hb.cell (p := ⟨w5.heap.size, 0, none⟩) (by show w5.heap.size < _; omega)).trans bx00_6
  clear bx00_6
  have bx01_7 := (hb.cell (p := ⟨w5.heap.size, 1, none⟩) (by show w5.heap.size < _; omega)).trans bx01_6
  clear bx01_6
  clear hb
  have g0_7 := Lib.hid ho.in_
  clear ho
  go_wp2_with fail
  refine (eqSS_v w7 g0_7.out.own.rd w0_7.out.own.rd (HL.out) (by have := HL.out; omega) (fun k hk => by have := row_small HS k hk; omega)).mono ?_
  rintro e w8 ⟨rfl, hb⟩
  have z8 : w7.heap.size ≤ w8.heap.size := hb.size
  have B8 : Below w.heap.size w w8 := B7.trans (hb.mono (by omega))
  have p0_8 := Lib.hid (p0_7.out.step (w' := w8) (fun k h1 h2 => hb.block k (by omega)))
  clear p0_7
  have w0_8 := Lib.hid (w0_7.out.step (w' := w8) (fun k h1 h2 => hb.block k (by omega)))
  clear w0_7
  have x0_8 := Lib.hid (x0_7.out.step (w' := w8) (fun k h1 h2 => hb.block k (by omega)))
  clear x0_7
  have g0_8 := Lib.hid (g0_7.out.step (w' := w8) (fun k h1 h2 => hb.block k (by omega)))
  clear g0_7
  have bd00_8 := (hb.cell (p := ⟨w.heap.size, 0, none⟩) (by show w.heap.size < _; omega)).trans bd00_7
  clear bd00_7
  have bd01_8 := (hb.cell (p := ⟨w.heap.size, 1, none⟩) (by show w.heap.size < _; omega)).trans bd01_7
  clear bd01_7
  have bx00_8 := (hb.cell (p := ⟨w5.heap.size, 0, none⟩) (by show w5.heap.size < _; omega)).trans bx00_7
  clear bx00_7
  have bx01_8 := (hb.cell (p := ⟨w5.heap.size, 1, none⟩) (by show w5.heap.size < _; omega)).trans bx01_7
  clear bx01_7
  clear hb
  go_wp2_with fail
  have HE := Lib.hid (fun (w' : World) (hb : Below w8.heap.size w8 w') => toD w' x0 A0 n0 c0 R0 xs0 ((HR0.out).below (B8.trans (hb.mono (by omega)))) (HN0.out) (by omega) (fun k hk => by have := row_small HT0 k (by rw [HN0.out]; exact hk); omega))
  have ck0 := Lib.hid (fun (w' : World) (hb : Below w8.heap.size w8 w') => (hb.cell (p := ⟨w.heap.size, 0, none⟩) (by show w.heap.size < w8.heap.size; omega)).trans bd00_8)
  have ck1 := Lib.hid (fun (w' : World) (hb : Below w8.heap.size w8 w') => (hb.cell (p := ⟨w.heap.size, 1, none⟩) (by show w.heap.size < w8.heap.size; omega)).trans bd01_8)
  have ck2 := Lib.hid (fun (w' : World) (hb : Below w8.heap.size w8 w') => (hb.cell (p := ⟨w5.heap.size, 0, none⟩) (by show w5.heap.size < w8.heap.size; omega)).trans bx00_8)
  have ck3 := Lib.hid (fun (w' : World) (hb : Below w8.heap.size w8 w') => (hb.cell (p := ⟨w5.heap.size, 1, none⟩) (by show w5.heap.size < w8.heap.size; omega)).trans bx01_8)
  have hS := Lib.hid (Below.refl w8.heap.size w8)
  go_region_held3 (fun w' => Below w8.heap.size w8 w' ∧ w'.cell? ⟨w.heap.size, 0, none⟩ = some (.int .i64 x0) ∧ w'.cell? ⟨w.heap.size, 1, none⟩ = some (.slice A0 n0 c0) ∧ w'.cell? ⟨w5.heap.size, 0, none⟩ = some (.int .i64 x0) ∧ w'.cell? ⟨w5.heap.size, 1, none⟩ = some (.slice x0A n0 n0)) (first | exact ⟨hS.out, ck0.out _ hS.out, ck1.out _ hS.out, ck2.out _ hS.out, ck3.out _ hS.out⟩ | exact ⟨below_drewN hS.out 1, ck0.out _ (below_drewN hS.out 1), ck1.out _ (below_drewN hS.out 1), ck2.out _ (below_drewN hS.out 1), ck3.out _ (below_drewN hS.out 1)⟩)
    (first
      | (go_at_call 6; refine (HE.out _ (below_drewN hS.out 1)).mono ?_; rintro e wy ⟨⟨yA, yR, rfl, ho⟩, hb⟩; have hy := Lib.hid ho; have hS := Lib.hid ((below_drewN hS.out 1).trans (hb.mono hS.out.size)); have h1y := Lib.hid hb; clear ho hb)
      | (go_at_call 9; refine (eqD_v _ x0 (x0_8.out.step (w' := wy) (fun k h1 h2 => hS.out.block k (by omega))).own.rd hy.out.rd (HN0.out) (by have := HN0.out; omega) (fun k hk => by have := row_small HT0 k hk; omega)).mono ?_; rintro e w9 ⟨rfl, hb⟩; have hS1 := hS; have hS := Lib.hid (hS1.out.trans (hb.mono hS1.out.size)); clear hb))
  have hb := hS.out
  clear hS HE hy h1y ck0 ck1 ck2 ck3
  have z9 : w8.heap.size ≤ w9.heap.size := hb.size
  have B9 : Below w.heap.size w w9 := B8.trans (hb.mono (by omega))
  have p0_9 := Lib.hid (p0_8.out.step (w' := w9) (fun k h1 h2 => hb.block k (by omega)))
  clear p0_8
  have w0_9 := Lib.hid (w0_8.out.step (w' := w9) (fun k h1 h2 => hb.block k (by omega)))
  clear w0_8
  have x0_9 := Lib.hid (x0_8.out.step (w' := w9) (fun k h1 h2 => hb.block k (by omega)))
  clear x0_8
  have g0_9 := Lib.hid (g0_8.out.step (w' := w9) (fun k h1 h2 => hb.block k (by omega)))
  clear g0_8
  have bd00_9 := (hb.cell (p := ⟨w.heap.size, 0, none⟩) (by show w.heap.size < _; omega)).trans bd00_8
  clear bd00_8
  have bd01_9 := (hb.cell (p := ⟨w.heap.size, 1, none⟩) (by show w.heap.size < _; omega)).trans bd01_8
  clear bd01_8
  have bx00_9 := (hb.cell (p := ⟨w5.heap.size, 0, none⟩) (by show w5.heap.size < _; omega)).trans bx00_8
  clear bx00_8
  have bx01_9 := (hb.cell (p := ⟨w5.heap.size, 1, none⟩) (by show w5.heap.size < _; omega)).trans bx01_8
  clear bx01_8
  clear hb
  go_wp2_with fail
  refine (markD_v w9 x0 (1) x0_9.out (HN0.out) (by omega) (by omega)).mono ?_
  rintro e w10 ⟨rfl, ⟨x0Y, ho, x0hM⟩, hb⟩
  have z10 : w9.heap.size ≤ w10.heap.size := hb.size
  have B10 : Below w.heap.size w w10 := B9.trans (hb.below (by omega) (by omega))
  have p0_10 := Lib.hid (p0_9.out.step (w' := w10) (fun k h1 h2 => hb.block k (by omega) (by first | exact Or.inl (by omega) | exact Or.inr (by omega))))
  clear p0_9
  have w0_10 := Lib.hid (w0_9.out.step (w' := w10) (fun k h1 h2 => hb.block k (by omega) (by first | exact Or.inl (by omega) | exact Or.inr (by omega))))
  clear w0_9
  have g0_10 := Lib.hid (g0_9.out.step (w' := w10) (fun k h1 h2 => hb.block k (by omega) (by first | exact Or.inl (by omega) | exact Or.inr (by omega))))
  clear g0_9
  have bd00_10 := (World.cell?_of_block (a := ⟨w.heap.size, 0, none⟩) (hb.block (w.heap.size) (by omega) (by first | exact Or.inl (by omega) | exact Or.inr (by omega)))).trans bd00_9
  clear bd00_9
  have bd01_10 := (World.cell?_of_block (a := ⟨w.heap.size, 1, none⟩) (hb.block (w.heap.size) (by omega) (by first | exact Or.inl (by omega) | exact Or.inr (by omega)))).trans bd01_9
  clear bd01_9
  have bx00_10 := (World.cell?_of_block (a := ⟨w5.heap.size, 0, none⟩) (hb.block (w5.heap.size) (by omega) (by first | exact Or.inl (by omega) | exact Or.inr (by omega)))).trans bx00_9
  clear bx00_9
  have bx01_10 := (World.cell?_of_block (a := ⟨w5.heap.size, 1, none⟩) (hb.block (w5.heap.size) (by omega) (by first | exact Or.inl (by omega) | exact Or.inr (by omega)))).trans bx01_9
  clear bx01_9
  clear hb
  have x0_10 := Lib.hid ho
  clear ho x0_9
  have x0HM := Lib.hid x0hM
  clear x0hM
  go_wp2_with fail
  refine (eqSS_v w10 g0_10.out.own.rd w0_10.out.own.rd (HL.out) (by have := HL.out; omega) (fun k hk => by have := row_small HS k hk; omega)).mono ?_
  rintro e w11 ⟨rfl, hb⟩
  have z11 : w10.heap.size ≤ w11.heap.size := hb.size
  have B11 : Below w.heap.size w w11 := B10.trans (hb.mono (by omega))
  have p0_11 := Lib.hid (p0_10.out.step (w' := w11) (fun k h1 h2 => hb.block k (by omega)))
  clear p0_10
  have w0_11 := Lib.hid (w0_10.out.step (w' := w11) (fun k h1 h2 => hb.block k (by omega)))
  clear w0_10
  have x0_11 := Lib.hid (x0_10.out.step (w' := w11) (fun k h1 h2 => hb.block k (by omega)))
  clear x0_10
  have g0_11 := Lib.hid (g0_10.out.step (w' := w11) (fun k h1 h2 => hb.block k (by omega)))
  clear g0_10
  have bd00_11 := (hb.cell (p := ⟨w.heap.size, 0, none⟩) (by show w.heap.size < _; omega)).trans bd00_10
  clear bd00_10
  have bd01_11 := (hb.cell (p := ⟨w.heap.size, 1, none⟩) (by show w.heap.size < _; omega)).trans bd01_10
  clear bd01_10
  have bx00_11 := (hb.cell (p := ⟨w5.heap.size, 0, none⟩) (by show w5.heap.size < _; omega)).trans bx00_10
  clear bx00_10
  have bx01_11 := (hb.cell (p := ⟨w5.heap.size, 1, none⟩) (by show w5.heap.size < _; omega)).trans bx01_10
  clear bx01_10
  clear hb
  go_wp2_with fail
  refine (markSS_v w11 (1) g0_11.out (HL.out) (by omega) (by omega)).mono ?_
  rintro e w12 ⟨rfl, ⟨g0Y, ho, g0hM⟩, hb⟩
  have z12 : w11.heap.size ≤ w12.heap.size := hb.size
  have B12 : Below w.heap.size w w12 := B11.trans (hb.below (by omega) (by omega))
  have p0_12 := Lib.hid (p0_11.out.step (w' := w12) (fun k h1 h2 => hb.block k (by omega) (by first | exact Or.inl (by omega) | exact Or.inr (by omega))))
  clear p0_11
  have w0_12 := Lib.hid (w0_11.out.step (w' := w12) (fun k h1 h2 => hb.block k (by omega) (by first | exact Or.inl (by omega) | exact Or.inr (by omega))))
  clear w0_11
  have x0_12 := Lib.hid (x0_11.out.step (w' := w12) (fun k h1 h2 => hb.block k (by omega) (by first | exact Or.inl (by omega) | exact Or.inr (by omega))))
  clear x0_11
  have bd00_12 := (World.cell?_of_block (a := ⟨w.heap.size, 0, none⟩) (hb.block (w.heap.size) (by omega) (by first | exact Or.inl (by omega) | exact Or.inr (by omega)))).trans bd00_11
  clear bd00_11
  have bd01_12 := (World.cell?_of_block (a := ⟨w.heap.size, 1, none⟩) (hb.block (w.heap.size) (by omega) (by first | exact Or.inl (by omega) | exact Or.inr (by omega)))).trans bd01_11
  clear bd01_11
  have bx00_12 := (World.cell?_of_block (a := ⟨w5.heap.size, 0, none⟩) (hb.block (w5.heap.size) (by omega) (by first | exact Or.inl (by omega) | exact Or.inr (by omega)))).trans bx00_11
  clear bx00_11
  have bx01_12 := (World.cell?_of_block (a := ⟨w5.heap.size, 1, none⟩) (hb.block (w5.heap.size) (by omega) (by first | exact Or.inl (by omega) | exact Or.inr (by omega)))).trans bx01_11
  clear bx01_11
  clear hb
  have g0_12 := Lib.hid ho
  clear ho g0_11
  have g0HM := Lib.hid g0hM
  clear g0hM
  go_wp2_with fail
  refine (heldSS_v w12 (1) g0_12.out.own.rd (g0HM.out) (HL.out) (by omega) (by omega)).mono ?_
  rintro e w13 ⟨rfl, hb⟩
  have z13 : w12.heap.size ≤ w13.heap.size := hb.size
  have B13 : Below w.heap.size w w13 := B12.trans (hb.mono (by omega))
  have p0_13 := Lib.hid (p0_12.out.step (w' := w13) (fun k h1 h2 => hb.block k (by omega)))
  clear p0_12
  have w0_13 := Lib.hid (w0_12.out.step (w' := w13) (fun k h1 h2 => hb.block k (by omega)))
  clear w0_12
  have x0_13 := Lib.hid (x0_12.out.step (w' := w13) (fun k h1 h2 => hb.block k (by omega)))
  clear x0_12
  have g0_13 := Lib.hid (g0_12.out.step (w' := w13) (fun k h1 h2 => hb.block k (by omega)))
  clear g0_12
  have bd00_13 := (hb.cell (p := ⟨w.heap.size, 0, none⟩) (by show w.heap.size < _; omega)).trans bd00_12
  clear bd00_12
  have bd01_13 := (hb.cell (p := ⟨w.heap.size, 1, none⟩) (by show w.heap.size < _; omega)).trans bd01_12
  clear bd01_12
  have bx00_13 := (hb.cell (p := ⟨w5.heap.size, 0, none⟩) (by show w5.heap.size < _; omega)).trans bx00_12
  clear bx00_12
  have bx01_13 := (hb.cell (p := ⟨w5.heap.size, 1, none⟩) (by show w5.heap.size < _; omega)).trans bx01_12
  clear bx01_12
  clear hb
  go_wp2_with fail
  refine (toD w13 x0 A0 n0 c0 R0 xs0 ((HR0.out).below B13) (HN0.out) (by omega) (fun k hk => by have := row_small HT0 k (by rw [HN0.out]; exact hk); omega)).mono ?_
  rintro e w14 ⟨⟨z0A, z0R, rfl, ho⟩, hb⟩
  have z14 : w13.heap.size ≤ w14.heap.size := hb.size
  have B14 : Below w.heap.size w w14 := B13.trans (hb.mono (by omega))
  have p0_14 := Lib.hid (p0_13.out.step (w' := w14) (fun k h1 h2 => hb.block k (by omega)))
  clear p0_13
  have w0_14 := Lib.hid (w0_13.out.step (w' := w14) (fun k h1 h2 => hb.block k (by omega)))
  clear w0_13
  have x0_14 := Lib.hid (x0_13.out.step (w' := w14) (fun k h1 h2 => hb.block k (by omega)))
  clear x0_13
  have g0_14 := Lib.hid (g0_13.out.step (w' := w14) (fun k h1 h2 => hb.block k (by omega)))
  clear g0_13
  have bd00_14 := (hb.cell (p := ⟨w.heap.size, 0, none⟩) (by show w.heap.size < _; omega)).trans bd00_13
  clear bd00_13
  have bd01_14 := (hb.cell (p := ⟨w.heap.size, 1, none⟩) (by show w.heap.size < _; omega)).trans bd01_13
  clear bd01_13
  have bx00_14 := (hb.cell (p := ⟨w5.heap.size, 0, none⟩) (by show w5.heap.size < _; omega)).trans bx00_13
  clear bx00_13
  have bx01_14 := (hb.cell (p := ⟨w5.heap.size, 1, none⟩) (by show w5.heap.size < _; omega)).trans bx01_13
  clear bx01_13
  clear hb
  have z0_14 := Lib.hid ho.in_
  clear ho
  go_wp2_with fail
  refine (implResolveDesign_c w14 x0 hb0 z0A n0 n0 z0R xs0 z0_14.out.own.rd (HN0.out) hw0 (by omega) x1 hb1).mono ?_
  rintro e w15 ⟨⟨h0A, h0n, h0c, h0R, rfl, h0hn, ho⟩, hb⟩
  obtain rfl : w0n = h0n := HL.out.symm.trans h0hn
  clear h0hn
  have z15 : w14.heap.size ≤ w15.heap.size := hb.size
  have B15 : Below w.heap.size w w15 := B14.trans (hb.mono (by omega))
  have p0_15 := Lib.hid (p0_14.out.step (w' := w15) (fun k h1 h2 => hb.block k (by omega)))
  clear p0_14
  have w0_15 := Lib.hid (w0_14.out.step (w' := w15) (fun k h1 h2 => hb.block k (by omega)))
  clear w0_14
  have x0_15 := Lib.hid (x0_14.out.step (w' := w15) (fun k h1 h2 => hb.block k (by omega)))
  clear x0_14
  have g0_15 := Lib.hid (g0_14.out.step (w' := w15) (fun k h1 h2 => hb.block k (by omega)))
  clear g0_14
  have z0_15 := Lib.hid (z0_14.out.step (w' := w15) (fun k h1 h2 => hb.block k (by omega)))
  clear z0_14
  have bd00_15 := (hb.cell (p := ⟨w.heap.size, 0, none⟩) (by show w.heap.size < _; omega)).trans bd00_14
  clear bd00_14
  have bd01_15 := (hb.cell (p := ⟨w.heap.size, 1, none⟩) (by show w.heap.size < _; omega)).trans bd01_14
  clear bd01_14
  have bx00_15 := (hb.cell (p := ⟨w5.heap.size, 0, none⟩) (by show w5.heap.size < _; omega)).trans bx00_14
  clear bx00_14
  have bx01_15 := (hb.cell (p := ⟨w5.heap.size, 1, none⟩) (by show w5.heap.size < _; omega)).trans bx01_14
  clear bx01_14
  clear hb
  have h0_15 := Lib.hid ho.in_
  clear ho
  go_wp2_with fail
  refine (eqSS_v w15 h0_15.out.own.rd w0_15.out.own.rd (HL.out) (by have := HL.out; omega) (fun k hk => by have := row_small HS k hk; omega)).mono ?_
  rintro e w16 ⟨rfl, hb⟩
  have z16 : w15.heap.size ≤ w16.heap.size := hb.size
  have B16 : Below w.heap.size w w16 := B15.trans (hb.mono (by omega))
  have p0_16 := Lib.hid (p0_15.out.step (w' := w16) (fun k h1 h2 => hb.block k (by omega)))
  clear p0_15
  have w0_16 := Lib.hid (w0_15.out.step (w' := w16) (fun k h1 h2 => hb.block k (by omega)))
  clear w0_15
  have x0_16 := Lib.hid (x0_15.out.step (w' := w16) (fun k h1 h2 => hb.block k (by omega)))
  clear x0_15
  have g0_16 := Lib.hid (g0_15.out.step (w' := w16) (fun k h1 h2 => hb.block k (by omega)))
  clear g0_15
  have z0_16 := Lib.hid (z0_15.out.step (w' := w16) (fun k h1 h2 => hb.block k (by omega)))
  clear z0_15
  have h0_16 := Lib.hid (h0_15.out.step (w' := w16) (fun k h1 h2 => hb.block k (by omega)))
  clear h0_15
  have bd00_16 := (hb.cell (p := ⟨w.heap.size, 0, none⟩) (by show w.heap.size < _; omega)).trans bd00_15
  clear bd00_15
  have bd01_16 := (hb.cell (p := ⟨w.heap.size, 1, none⟩) (by show w.heap.size < _; omega)).trans bd01_15
  clear bd01_15
  have bx00_16 := (hb.cell (p := ⟨w5.heap.size, 0, none⟩) (by show w5.heap.size < _; omega)).trans bx00_15
  clear bx00_15
  have bx01_16 := (hb.cell (p := ⟨w5.heap.size, 1, none⟩) (by show w5.heap.size < _; omega)).trans bx01_15
  clear bx01_15
  clear hb
  go_wp2_with fail
  refine (heldSS_v w16 (1) g0_16.out.own.rd (g0HM.out) (HL.out) (by omega) (by omega)).mono ?_
  rintro e w17 ⟨rfl, hb⟩
  have z17 : w16.heap.size ≤ w17.heap.size := hb.size
  have B17 : Below w.heap.size w w17 := B16.trans (hb.mono (by omega))
  have p0_17 := Lib.hid (p0_16.out.step (w' := w17) (fun k h1 h2 => hb.block k (by omega)))
  clear p0_16
  have w0_17 := Lib.hid (w0_16.out.step (w' := w17) (fun k h1 h2 => hb.block k (by omega)))
  clear w0_16
  have x0_17 := Lib.hid (x0_16.out.step (w' := w17) (fun k h1 h2 => hb.block k (by omega)))
  clear x0_16
  have g0_17 := Lib.hid (g0_16.out.step (w' := w17) (fun k h1 h2 => hb.block k (by omega)))
  clear g0_16
  have z0_17 := Lib.hid (z0_16.out.step (w' := w17) (fun k h1 h2 => hb.block k (by omega)))
  clear z0_16
  have h0_17 := Lib.hid (h0_16.out.step (w' := w17) (fun k h1 h2 => hb.block k (by omega)))
  clear h0_16
  have bd00_17 := (hb.cell (p := ⟨w.heap.size, 0, none⟩) (by show w.heap.size < _; omega)).trans bd00_16
  clear bd00_16
  have bd01_17 := (hb.cell (p := ⟨w.heap.size, 1, none⟩) (by show w.heap.size < _; omega)).trans bd01_16
  clear bd01_16
  have bx00_17 := (hb.cell (p := ⟨w5.heap.size, 0, none⟩) (by show w5.heap.size < _; omega)).trans bx00_16
  clear bx00_16
  have bx01_17 := (hb.cell (p := ⟨w5.heap.size, 1, none⟩) (by show w5.heap.size < _; omega)).trans bx01_16
  clear bx01_16
  clear hb
  go_wp2
  go_ret
  exact ⟨rfl, B17⟩

theorem walk (w : World) (x0 : Int) (hb0 : -9223372036854775808 ≤ x0 ∧ x0 ≤ 9223372036854775807) (A0 : Option Addr) (n0 c0 : Nat) (R0 : Spine) (xs0 : List (List Int)) (hr0 : RdM w A0 c0 R0 xs0) (hn0 : xs0.length = n0) (hw0 : WfM xs0) (x1 : Int) (hb1 : -9223372036854775808 ≤ x1 ∧ x1 ≤ 9223372036854775807) :
    Calls Try.prog 3 #[.agg #[.int .i64 x0, .slice A0 n0 c0], .int .i64 x1] w fun e w' => e = .returned (.bool true) ∧ Below w.heap.size w w' := by
  rcases Int.lt_or_le 1048576 (((n0 : Int) + (tot xs0 : Nat))) with h0 | h0
  · exact walkOut0 w x0 hb0 A0 n0 c0 R0 xs0 hr0 hn0 hw0 x1 hb1  h0
  exact walkIn w x0 hb0 A0 n0 c0 R0 xs0 hr0 hn0 hw0 x1 hb1 h0

set_option maxRecDepth 100000 in
theorem lifted (os : Os) (started : os.Started) (H : Type) (enc : TypeId × Value → H) :
    ReturnsInHanded {} Try.checked os 3 .any (Rows.fnExactResolveDesignSpec.pre6 enc Try.prog Try.f3 Rows.fnExactResolveDesignRow.domain false) (Rows.fnExactResolveDesignSpec.post enc Try.prog Try.f3 false true false false) := by
  refine returnsInHanded_of_change (C := Try.checked) own started (by kernel_rfl) Try.func3
    (ChangeSpec.witness6 (enc := enc) (C := Try.checked) false ⟨#[], #[.agg #[.int .i64 0, .slice none 0 0], .int .i64 0], []⟩ 8 (by kernel_rfl) (by kernel_rfl) (by kernel_rfl) (by kernel_rfl)) ?_
  intro W base args ds gs before hval0 hW hcnd _
  have hval : ∀ (j : Nat) t v, Try.f3.params[j]? = some t → args[j]? = some v → Value.okWide Try.prog W .any base t v := hval0
  have hW' := hW
  obtain ⟨p, q, hA0, hV, rfl, hfz, hnd⟩ := hW
  have hA : DataW.TrodAll enc Try.prog W 0 (fun _ => true) true Try.f3.params.toList args.toList ds p := hA0
  rw [Try.params3] at hA hval
  obtain ⟨v0, vs0, d0, ds0, p0, q0, hargs, rfl, rfl, h0, r0⟩ := trodAll_cons hA
  obtain ⟨v1, vs1, d1, ds1, p1, q1, rfl, rfl, rfl, h1, r1⟩ := trodAll_cons r0
  obtain ⟨rfl, rfl, rfl⟩ := trodAll_nil r1
  obtain rfl : args = #[v0, v1] := by cases args; simp_all
  obtain ⟨rfl, rfl⟩ := trodVars_none hV
  have k0 := h0
  obtain ⟨x0, A0, n0, c0, R0, xs0, rfl, hb0, hr0, hn0, hw0⟩ := open_D (hval 0 24 v0 rfl rfl) h0
  have lt0 : ∀ x ∈ p0, x.block < W.heap.size := by obtain ⟨m, hm⟩ := k0; exact DataW.trod_lt m _ _ _ hm
  have k1 := h1
  have lt1 : ∀ x ∈ p1, x.block < W.heap.size := by obtain ⟨m, hm⟩ := k1; exact DataW.trod_lt m _ _ _ hm
  obtain ⟨x1, rfl, e1, _, hwf1⟩ := open_int Try.underlying2 (hval 1 2 v1 rfl rfl) h1
  have hb1 := wf_b64 hwf1
  clear hA0 hval0
  refine (walk W x0 hb0 A0 n0 c0 R0 xs0 hr0 hn0 hw0 x1 hb1).mono fun e W' ⟨he, bel⟩ => ?_
  subst he
  exact ⟨_, rfl, _, _, _, [], _, [], hW', trodAll_mk1 (shut_bool Try.underlying4 _), (trodAll_cons_mk (Below.trod laidOut (by kernel_rfl) (of_decide_eq_true (by kernel_rfl)) k0 bel lt0) (trodAll_cons_mk (Below.trod laidOut (by kernel_rfl) (of_decide_eq_true (by kernel_rfl)) k1 bel lt1) trodAll_mk0)), rfl, bel.frame _, fun h => by cases h⟩

theorem over : Rows.fnExactResolveDesignRow.holds Try.pinned (OpenSpec.ofChange Rows.fnExactResolveDesignSpec) :=
  OpenClaim.holds_of_wide 3 Try.f3 rfl rfl rfl rfl rfl rfl rfl ⟨rfl, rfl, rfl, rfl, rfl⟩ rfl rfl rfl rfl rfl (by kernel_rfl) Try.func3 (by kernel_rfl)
    (of_decide_eq_true (by kernel_rfl)) (by unfold Func.isWrapper; first | (rw [if_pos (by decide +kernel)]; kernel_rfl) | (rw [if_neg (by decide +kernel)]; exact ⟨rfl, rfl⟩))
    (fun os started H enc _ => lifted os started H enc)

/-- The statement. -/
theorem proved : Rows.FnExactResolveDesignSaid := over
#print axioms proved
end Go.Proofs.Ythgbfgdnljgicab.lawResolveDesign
