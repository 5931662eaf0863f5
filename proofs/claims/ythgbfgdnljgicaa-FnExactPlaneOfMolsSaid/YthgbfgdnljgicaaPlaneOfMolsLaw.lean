/-
  The program's PlaneOfMols returns what the reference's returns: the statement FnExactPlaneOfMolsSaid. Conditions: none.
-/
import Derived.Test.YthgbfgdnljgicaaRows
import Derived.Test.YthgbfgdnljgicaaPomI
import Derived.Test.YthgbfgdnljgicaaPomS
import Derived.Test.YthgbfgdnljgicaaDFrame
import Derived.Test.YthgbfgdnljgicaaDsg
import Derived.Deep.RegionHeld3
import Derived.Test.YthgbfgdnljgicaaTFrame
namespace Go.Proofs.Ythgbfgdnljgicaa.lawPlaneOfMols
open Go.ChangeShapes Go.WideShapes Go.ChangeAt Go.RowKit Go.Deep
set_option linter.unusedVariables false
set_option linter.unusedSimpArgs false

theorem own : ownKnob Try.prog.godebug = none := by kernel_rfl
theorem laidOut : laidOutB Try.prog = true := by kernel_rfl

set_option maxHeartbeats 400000 in
theorem walkOut0 (w : World) (A0 : Option Addr) (n0 c0 : Nat) (S0 : Spine3) (xs0 : List (List (List Int))) (hr0 : RdL w A0 c0 S0 xs0) (hn0 : xs0.length = n0) (hw0 : WfT xs0) (hz : 1048576 < ((n0 : Int) + (wgt xs0 : Nat))) :
    Calls Try.prog 3 #[.slice A0 n0 c0] w fun e w' => e = .returned (.bool true) ∧ Below w.heap.size w w' := by
  have HR0 := Lib.hid hr0
  have HN0 := Lib.hid hn0
  have hm0 : n0 ≤ 9223372036854775807 := by have h1 := hr0.le; have h2 := hr0.cap; unfold maxLen at h2; omega
  clear hr0 hn0
  go_enter Try.func3, Try.ntmps3
  go_wp2_with fail
  refine (szL_out w A0 n0 c0 S0 xs0 (1048576) (HR0.out) (HN0.out) (by omega) (by omega) (by omega)).mono ?_
  rintro e w' ⟨rfl, rfl⟩
  go_wp2
  go_ret
  exact ⟨rfl, Below.refl _ _⟩

set_option maxHeartbeats 4000000 in
set_option maxRecDepth 100000 in
theorem walkIn (w : World) (A0 : Option Addr) (n0 c0 : Nat) (S0 : Spine3) (xs0 : List (List (List Int))) (hr0 : RdL w A0 c0 S0 xs0) (hn0 : xs0.length = n0) (hw0 : WfT xs0) (hz0 : ((n0 : Int) + (wgt xs0 : Nat)) ≤ 1048576) :
    Calls Try.prog 3 #[.slice A0 n0 c0] w fun e w' => e = .returned (.bool true) ∧ Below w.heap.size w w' := by
  have hsmall : (pomX xs0).length ≤ 1048576 := (PlaneOfMols_small xs0).1
  have HS : tot (pomX xs0) ≤ 1048576 := (PlaneOfMols_small xs0).2
  have HT0 : wgt xs0 ≤ 1048576 := by omega
  have hc0 := cnt3_le_wgt xs0
  have HR0 := Lib.hid hr0
  have HN0 := Lib.hid hn0
  have hm0 : n0 ≤ 9223372036854775807 := by have h1 := hr0.le; have h2 := hr0.cap; unfold maxLen at h2; omega
  clear hr0 hn0
  go_enter Try.func3, Try.ntmps3
  go_wp2_with fail
  refine (szL_in w A0 n0 c0 S0 xs0 (1048576) (HR0.out) (HN0.out) (by omega) (by omega)).mono ?_
  rintro e w' ⟨rfl, rfl⟩
  go_wp2_with fail
  refine (toL w A0 n0 c0 S0 xs0 ((HR0.out).below (Below.refl _ _)) (HN0.out) (by omega) HT0).mono ?_
  rintro e w1 ⟨⟨p0A, p0S, p0I, rfl, ho⟩, hb⟩
  have z1 : w.heap.size ≤ w1.heap.size := hb.size
  have B1 : Below w.heap.size w w1 := (hb.mono (by omega))
  clear hb
  have p0_1 := Lib.hid ho
  clear ho
  go_wp2_with fail
  refine (specPlaneOfMols_c w1 p0A n0 n0 p0S xs0 p0_1.out.rd (HN0.out) hw0 (by omega)).mono ?_
  rintro e w2 ⟨⟨w0A, w0n, w0c, w0R, rfl, w0hn, ho⟩, hb⟩
  have HL := Lib.hid w0hn
  have hsm : w0n ≤ 1048576 := by have := hsmall; have h2 := HL.out; omega
  clear w0hn
  have z2 : w1.heap.size ≤ w2.heap.size := hb.size
  have B2 : Below w.heap.size w w2 := B1.trans (hb.mono (by omega))
  have p0_2 := Lib.hid (p0_1.out.step (w' := w2) (fun k h1 h2 => hb.block k (by omega)))
  clear p0_1
  clear hb
  have w0_2 := Lib.hid ho.in_
  clear ho
  have hb : Below w2.heap.size w2 (w2.alloc (.cells #[.int .i64 (pomP xs0), .slice w0A w0n w0c] 26)) := below_boxed _ _
  have qw0 : w2.heap.size < (w2.alloc (.cells #[.int .i64 (pomP xs0), .slice w0A w0n w0c] 26)).heap.size := by simp
  have bw00_3 : (w2.alloc (.cells #[.int .i64 (pomP xs0), .slice w0A w0n w0c] 26)).cell? ⟨w2.heap.size, 0, none⟩ = some (.int .i64 (pomP xs0)) := by simp [go_sem]
  have bw01_3 : (w2.alloc (.cells #[.int .i64 (pomP xs0), .slice w0A w0n w0c] 26)).cell? ⟨w2.heap.size, 1, none⟩ = some (.slice w0A w0n w0c) := by simp [go_sem]
  go_wp2_with fail
  generalize (w2.alloc (.cells #[.int .i64 (pomP xs0), .slice w0A w0n w0c] 26)) = w3 at *
  have z3 : w2.heap.size ≤ w3.heap.size := hb.size
  have B3 : Below w.heap.size w w3 := B2.trans (hb.mono (by omega))
  have p0_3 := Lib.hid (p0_2.out.step (w' := w3) (fun k h1 h2 => hb.block k (by omega)))
  clear p0_2
  have w0_3 := Lib.hid (w0_2.out.step (w' := w3) (fun k h1 h2 => hb.block k (by omega)))
  clear w0_2
  clear hb
  go_wp2_with fail
  refine (toL w3 A0 n0 c0 S0 xs0 ((HR0.out).below B3) (HN0.out) (by omega) HT0).mono ?_
  rintro e w4 ⟨⟨x0A, x0S, x0I, rfl, ho⟩, hb⟩
  have z4 : w3.heap.size ≤ w4.heap.size := hb.size
  have B4 : Below w.heap.size w w4 := B3.trans (hb.mono (by omega))
  have p0_4 := Lib.hid (p0_3.out.step (w' := w4) (fun k h1 h2 => hb.block k (by omega)))
  clear p0_3
  have w0_4 := Lib.hid (w0_3.out.step (w' := w4) (fun k h1 h2 => hb.block k (by omega)))
  clear w0_3
  have bw00_4 := (hb.cell (p := ⟨w2.heap.size, 0, none⟩) (by show w2.heap.size < _; omega)).trans bw00_3
  clear bw00_3
  have bw01_4 := (hb.cell (p := ⟨w2.heap.size, 1, none⟩) (by show w2.heap.size < _; omega)).trans bw01_3
  clear bw01_3
  clear hb
  have x0_4 := Lib.hid ho
  clear ho
  go_wp2_with fail
  refine (implPlaneOfMols_c w4 x0A n0 n0 x0S xs0 x0_4.out.rd (HN0.out) hw0 (by omega)).mono ?_
  rintro e w5 ⟨⟨g0A, g0n, g0c, g0R, rfl, g0hn, ho⟩, hb⟩
  obtain rfl : w0n = g0n := HL.out.symm.trans g0hn
  clear g0hn
  have z5 : w4.heap.size ≤ w5.heap.size := hb.size
  have B5 : Below w.heap.size w w5 := B4.trans (hb.mono (by omega))
  have p0_5 := Lib.hid (p0_4.out.step (w' := w5) (fun k h1 h2 => hb.block k (by omega)))
  clear p0_4
  have w0_5 := Lib.hid (w0_4.out.step (w' := w5) (fun k h1 h2 => hb.block k (by omega)))
  clear w0_4
  have x0_5 := Lib.hid (x0_4.out.step (w' := w5) (fun k h1 h2 => hb.block k (by omega)))
  clear x0_4
  have bw00_5 := (hb.cell (p := ⟨w2.heap.size, 0, none⟩) (by show w2.heap.size < _; omega)).trans bw00_4
  clear bw00_4
  have bw01_5 := (hb.cell (p := ⟨w2.heap.size, 1, none⟩) (by show w2.heap.size < _; omega)).trans bw01_4
  clear bw01_4
  clear hb
  have g0_5 := Lib.hid ho.in_
  clear ho
  have hb : Below w5.heap.size w5 (w5.alloc (.cells #[.int .i64 (pomP xs0), .slice g0A w0n g0c] 26)) := below_boxed _ _
  have qg0 : w5.heap.size < (w5.alloc (.cells #[.int .i64 (pomP xs0), .slice g0A w0n g0c] 26)).heap.size := by simp
  have bg00_6 : (w5.alloc (.cells #[.int .i64 (pomP xs0), .slice g0A w0n g0c] 26)).cell? ⟨w5.heap.size, 0, none⟩ = some (.int .i64 (pomP xs0)) := by simp [go_sem]
  have bg01_6 : (w5.alloc (.cells #[.int .i64 (pomP xs0), .slice g0A w0n g0c] 26)).cell? ⟨w5.heap.size, 1, none⟩ = some (.slice g0A w0n g0c) := by simp [go_sem]
  have ew00 := (hb.cell (p := ⟨w2.heap.size, 0, none⟩) (by show w2.heap.size < _; omega)).trans bw00_5
  have ew01 := (hb.cell (p := ⟨w2.heap.size, 1, none⟩) (by show w2.heap.size < _; omega)).trans bw01_5
  go_wp2_with fail
  clear ew00 ew01
  generalize (w5.alloc (.cells #[.int .i64 (pomP xs0), .slice g0A w0n g0c] 26)) = w6 at *
  have z6 : w5.heap.size ≤ w6.heap.size := hb.size
  have B6 : Below w.heap.size w w6 := B5.trans (hb.mono (by omega))
  have p0_6 := Lib.hid (p0_5.out.step (w' := w6) (fun k h1 h2 => hb.block k (by omega)))
  clear p0_5
  have w0_6 := Lib.hid (w0_5.out.step (w' := w6) (fun k h1 h2 => hb.block k (by omega)))
  clear w0_5
  have x0_6 := Lib.hid (x0_5.out.step (w' := w6) (fun k h1 h2 => hb.block k (by omega)))
  clear x0_5
  have g0_6 := Lib.hid (g0_5.out.step (w' := w6) (fun k h1 h2 => hb.block k (by omega)))
  clear g0_5
  have bw00_6 := (hb.cell (p := ⟨w2.heap.size, 0, none⟩) (by show w2.heap.size < _; omega)).trans bw00_5
  clear bw00_5
  have bw01_6 := (hb.cell (p := ⟨w2.heap.size, 1, none⟩) (by show w2.heap.size < _; omega)).trans bw01_5
  clear bw01_5
  clear hb
  go_wp2_with fail
  refine (eqD_v w6 (pomP xs0) g0_6.out.own.rd w0_6.out.own.rd (HL.out) (by have := HL.out; omega) (fun k hk => by have := row_small HS k hk; omega)).mono ?_
  rintro e w7 ⟨rfl, hb⟩
  have z7 : w6.heap.size ≤ w7.heap.size := hb.size
  have B7 : Below w.heap.size w w7 := B6.trans (hb.mono (by omega))
  have p0_7 := Lib.hid (p0_6.out.step (w' := w7) (fun k h1 h2 => hb.block k (by omega)))
  clear p0_6
  have w0_7 := Lib.hid (w0_6.out.step (w' := w7) (fun k h1 h2 => hb.block k (by omega)))
  clear w0_6
  have x0_7 := Lib.hid (x0_6.out.step (w' := w7) (fun k h1 h2 => hb.block k (by omega)))
  clear x0_6
  have g0_7 := Lib.hid (g0_6.out.step (w' := w7) (fun k h1 h2 => hb.block k (by omega)))
  clear g0_6
  have bw00_7 := (hb.cell (p := ⟨w2.heap.size, 0, none⟩) (by show w2.heap.size < _; omega)).trans bw00_6
  clear bw00_6
  have bw01_7 := (hb.cell (p := ⟨w2.heap.size, 1, none⟩) (by show w2.heap.size < _; omega)).trans bw01_6
  clear bw01_6
  have bg00_7 := (hb.cell (p := ⟨w5.heap.size, 0, none⟩) (by show w5.heap.size < _; omega)).trans bg00_6
  clear bg00_6
  have bg01_7 := (hb.cell (p := ⟨w5.heap.size, 1, none⟩) (by show w5.heap.size < _; omega)).trans bg01_6
  clear bg01_6
  clear hb
  go_wp2_with fail
  refine (toL w7 A0 n0 c0 S0 xs0 ((HR0.out).below B7) (HN0.out) (by omega) HT0).mono ?_
  rintro e w8 ⟨⟨y0A, y0S, y0I, rfl, ho⟩, hb⟩
  have z8 : w7.heap.size ≤ w8.heap.size := hb.size
  have B8 : Below w.heap.size w w8 := B7.trans (hb.mono (by omega))
  have p0_8 := Lib.hid (p0_7.out.step (w' := w8) (fun k h1 h2 => hb.block k (by omega)))
  clear p0_7
  have w0_8 := Lib.hid (w0_7.out.step (w' := w8) (fun k h1 h2 => hb.block k (by omega)))
  clear w0_7
  have x0_8 := Lib.hid (x0_7.out.step (w' := w8) (fun k h1 h2 => hb.block k (by omega)))
  clear x0_7
  have g0_8 := Lib.hid (g0_7.out.step (w' := w8) (fun k h1 h2 => hb.block k (by omega)))
  clear g0_7
  have bw00_8 := (hb.cell (p := ⟨w2.heap.size, 0, none⟩) (by show w2.heap.size < _; omega)).trans bw00_7
  clear bw00_7
  have bw01_8 := (hb.cell (p := ⟨w2.heap.size, 1, none⟩) (by show w2.heap.size < _; omega)).trans bw01_7
  clear bw01_7
  have bg00_8 := (hb.cell (p := ⟨w5.heap.size, 0, none⟩) (by show w5.heap.size < _; omega)).trans bg00_7
  clear bg00_7
  have bg01_8 := (hb.cell (p := ⟨w5.heap.size, 1, none⟩) (by show w5.heap.size < _; omega)).trans bg01_7
  clear bg01_7
  clear hb
  have y0_8 := Lib.hid ho
  clear ho
  go_wp2_with fail
  refine (eqL_v w8 x0_8.out.rd y0_8.out.rd (HN0.out) (by have := HN0.out; omega) HT0).mono ?_
  rintro e w9 ⟨rfl, hb⟩
  have z9 : w8.heap.size ≤ w9.heap.size := hb.size
  have B9 : Below w.heap.size w w9 := B8.trans (hb.mono (by omega))
  have p0_9 := Lib.hid (p0_8.out.step (w' := w9) (fun k h1 h2 => hb.block k (by omega)))
  clear p0_8
  have w0_9 := Lib.hid (w0_8.out.step (w' := w9) (fun k h1 h2 => hb.block k (by omega)))
  clear w0_8
  have x0_9 := Lib.hid (x0_8.out.step (w' := w9) (fun k h1 h2 => hb.block k (by omega)))
  clear x0_8
  have g0_9 := Lib.hid (g0_8.out.step (w' := w9) (fun k h1 h2 => hb.block k (by omega)))
  clear g0_8
  have y0_9 := Lib.hid (y0_8.out.step (w' := w9) (fun k h1 h2 => hb.block k (by omega)))
  clear y0_8
  have bw00_9 := (hb.cell (p := ⟨w2.heap.size, 0, none⟩) (by show w2.heap.size < _; omega)).trans bw00_8
  clear bw00_8
  have bw01_9 := (hb.cell (p := ⟨w2.heap.size, 1, none⟩) (by show w2.heap.size < _; omega)).trans bw01_8
  clear bw01_8
  have bg00_9 := (hb.cell (p := ⟨w5.heap.size, 0, none⟩) (by show w5.heap.size < _; omega)).trans bg00_8
  clear bg00_8
  have bg01_9 := (hb.cell (p := ⟨w5.heap.size, 1, none⟩) (by show w5.heap.size < _; omega)).trans bg01_8
  clear bg01_8
  clear hb
  go_wp2_with fail
  refine (markL_v w9 (1) x0_9.out (HN0.out) (by omega) (by omega)).mono ?_
  rintro e w10 ⟨rfl, ⟨x0Y, ho, x0hM⟩, hb⟩
  have z10 : w9.heap.size ≤ w10.heap.size := hb.size
  have B10 : Below w.heap.size w w10 := B9.trans (hb.below (by omega) (by omega))
  have p0_10 := Lib.hid (p0_9.out.step (w' := w10) (fun k h1 h2 => hb.block k (by omega) (by first | exact Or.inl (by omega) | exact Or.inr (by omega))))
  clear p0_9
  have w0_10 := Lib.hid (w0_9.out.step (w' := w10) (fun k h1 h2 => hb.block k (by omega) (by first | exact Or.inl (by omega) | exact Or.inr (by omega))))
  clear w0_9
  have g0_10 := Lib.hid (g0_9.out.step (w' := w10) (fun k h1 h2 => hb.block k (by omega) (by first | exact Or.inl (by omega) | exact Or.inr (by omega))))
  clear g0_9
  have y0_10 := Lib.hid (y0_9.out.step (w' := w10) (fun k h1 h2 => hb.block k (by omega) (by first | exact Or.inl (by omega) | exact Or.inr (by omega))))
  clear y0_9
  have bw00_10 := (World.cell?_of_block (a := ⟨w2.heap.size, 0, none⟩) (hb.block (w2.heap.size) (by omega) (by first | exact Or.inl (by omega) | exact Or.inr (by omega)))).trans bw00_9
  clear bw00_9
  have bw01_10 := (World.cell?_of_block (a := ⟨w2.heap.size, 1, none⟩) (hb.block (w2.heap.size) (by omega) (by first | exact Or.inl (by omega) | exact Or.inr (by omega)))).trans bw01_9
  clear bw01_9
  have bg00_10 := (World.cell?_of_block (a := ⟨w5.heap.size, 0, none⟩) (hb.block (w5.heap.size) (by omega) (by first | exact Or.inl (by omega) | exact Or.inr (by omega)))).trans bg00_9
  clear bg00_9
  have bg01_10 := (World.cell?_of_block (a := ⟨w5.heap.size, 1, none⟩) (hb.block (w5.heap.size) (by omega) (by first | exact Or.inl (by omega) | exact Or.inr (by omega)))).trans bg01_9
  clear bg01_9
  clear hb
  have x0_10 := Lib.hid ho
  clear ho x0_9
  have x0HM := Lib.hid x0hM
  clear x0hM
  go_wp2_with fail
  refine (eqD_v w10 (pomP xs0) g0_10.out.own.rd w0_10.out.own.rd (HL.out) (by have := HL.out; omega) (fun k hk => by have := row_small HS k hk; omega)).mono ?_
  rintro e w11 ⟨rfl, hb⟩
  have z11 : w10.heap.size ≤ w11.heap.size := hb.size
  have B11 : Below w.heap.size w w11 := B10.trans (hb.mono (by omega))
  have p0_11 := Lib.hid (p0_10.out.step (w' := w11) (fun k h1 h2 => hb.block k (by omega)))
  clear p0_10
  have w0_11 := Lib.hid (w0_10.out.step (w' := w11) (fun k h1 h2 => hb.block k (by omega)))
  clear w0_10
  have x0_11 := Lib.hid (x0_10.out.step (w' := w11) (fun k h1 h2 => hb.block k (by omega)))
  clear x0_10
  have g0_11 := Lib.hid (g0_10.out.step (w' := w11) (fun k h1 h2 => hb.block k (by omega)))
  clear g0_10
  have y0_11 := Lib.hid (y0_10.out.step (w' := w11) (fun k h1 h2 => hb.block k (by omega)))
  clear y0_10
  have bw00_11 := (hb.cell (p := ⟨w2.heap.size, 0, none⟩) (by show w2.heap.size < _; omega)).trans bw00_10
  clear bw00_10
  have bw01_11 := (hb.cell (p := ⟨w2.heap.size, 1, none⟩) (by show w2.heap.size < _; omega)).trans bw01_10
  clear bw01_10
  have bg00_11 := (hb.cell (p := ⟨w5.heap.size, 0, none⟩) (by show w5.heap.size < _; omega)).trans bg00_10
  clear bg00_10
  have bg01_11 := (hb.cell (p := ⟨w5.heap.size, 1, none⟩) (by show w5.heap.size < _; omega)).trans bg01_10
  clear bg01_10
  clear hb
  go_wp2_with fail
  refine (markD_v w11 (pomP xs0) (1) g0_11.out (HL.out) (by omega) (by omega)).mono ?_
  rintro e w12 ⟨rfl, ⟨g0Y, ho, g0hM⟩, hb⟩
  have z12 : w11.heap.size ≤ w12.heap.size := hb.size
  have B12 : Below w.heap.size w w12 := B11.trans (hb.below (by omega) (by omega))
  have p0_12 := Lib.hid (p0_11.out.step (w' := w12) (fun k h1 h2 => hb.block k (by omega) (by first | exact Or.inl (by omega) | exact Or.inr (by omega))))
  clear p0_11
  have w0_12 := Lib.hid (w0_11.out.step (w' := w12) (fun k h1 h2 => hb.block k (by omega) (by first | exact Or.inl (by omega) | exact Or.inr (by omega))))
  clear w0_11
  have x0_12 := Lib.hid (x0_11.out.step (w' := w12) (fun k h1 h2 => hb.block k (by omega) (by first | exact Or.inl (by omega) | exact Or.inr (by omega))))
  clear x0_11
  have y0_12 := Lib.hid (y0_11.out.step (w' := w12) (fun k h1 h2 => hb.block k (by omega) (by first | exact Or.inl (by omega) | exact Or.inr (by omega))))
  clear y0_11
  have bw00_12 := (World.cell?_of_block (a := ⟨w2.heap.size, 0, none⟩) (hb.block (w2.heap.size) (by omega) (by first | exact Or.inl (by omega) | exact Or.inr (by omega)))).trans bw00_11
  clear bw00_11
  have bw01_12 := (World.cell?_of_block (a := ⟨w2.heap.size, 1, none⟩) (hb.block (w2.heap.size) (by omega) (by first | exact Or.inl (by omega) | exact Or.inr (by omega)))).trans bw01_11
  clear bw01_11
  have bg00_12 := (World.cell?_of_block (a := ⟨w5.heap.size, 0, none⟩) (hb.block (w5.heap.size) (by omega) (by first | exact Or.inl (by omega) | exact Or.inr (by omega)))).trans bg00_11
  clear bg00_11
  have bg01_12 := (World.cell?_of_block (a := ⟨w5.heap.size, 1, none⟩) (hb.block (w5.heap.size) (by omega) (by first | exact Or.inl (by omega) | exact Or.inr (by omega)))).trans bg01_11
  clear bg01_11
  clear hb
  have g0_12 := Lib.hid ho
  clear ho g0_11
  have g0HM := Lib.hid g0hM
  clear g0hM
  go_wp2_with fail
  refine (heldD_v w12 (pomP xs0) (1) g0_12.out.own.rd (g0HM.out) (HL.out) (by omega) (by omega)).mono ?_
  rintro e w13 ⟨rfl, hb⟩
  have z13 : w12.heap.size ≤ w13.heap.size := hb.size
  have B13 : Below w.heap.size w w13 := B12.trans (hb.mono (by omega))
  have p0_13 := Lib.hid (p0_12.out.step (w' := w13) (fun k h1 h2 => hb.block k (by omega)))
  clear p0_12
  have w0_13 := Lib.hid (w0_12.out.step (w' := w13) (fun k h1 h2 => hb.block k (by omega)))
  clear w0_12
  have x0_13 := Lib.hid (x0_12.out.step (w' := w13) (fun k h1 h2 => hb.block k (by omega)))
  clear x0_12
  have g0_13 := Lib.hid (g0_12.out.step (w' := w13) (fun k h1 h2 => hb.block k (by omega)))
  clear g0_12
  have y0_13 := Lib.hid (y0_12.out.step (w' := w13) (fun k h1 h2 => hb.block k (by omega)))
  clear y0_12
  have bw00_13 := (hb.cell (p := ⟨w2.heap.size, 0, none⟩) (by show w2.heap.size < _; omega)).trans bw00_12
  clear bw00_12
  have bw01_13 := (hb.cell (p := ⟨w2.heap.size, 1, none⟩) (by show w2.heap.size < _; omega)).trans bw01_12
  clear bw01_12
  have bg00_13 := (hb.cell (p := ⟨w5.heap.size, 0, none⟩) (by show w5.heap.size < _; omega)).trans bg00_12
  clear bg00_12
  have bg01_13 := (hb.cell (p := ⟨w5.heap.size, 1, none⟩) (by show w5.heap.size < _; omega)).trans bg01_12
  clear bg01_12
  clear hb
  go_wp2_with fail
  refine (toL w13 A0 n0 c0 S0 xs0 ((HR0.out).below B13) (HN0.out) (by omega) HT0).mono ?_
  rintro e w14 ⟨⟨z0A, z0S, z0I, rfl, ho⟩, hb⟩
  have z14 : w13.heap.size ≤ w14.heap.size := hb.size
  have B14 : Below w.heap.size w w14 := B13.trans (hb.mono (by omega))
  have p0_14 := Lib.hid (p0_13.out.step (w' := w14) (fun k h1 h2 => hb.block k (by omega)))
  clear p0_13
  have w0_14 := Lib.hid (w0_13.out.step (w' := w14) (fun k h1 h2 => hb.block k (by omega)))
  clear w0_13
  have x0_14 := Lib.hid (x0_13.out.step (w' := w14) (fun k h1 h2 => hb.block k (by omega)))
  clear x0_13
  have g0_14 := Lib.hid (g0_13.out.step (w' := w14) (fun k h1 h2 => hb.block k (by omega)))
  clear g0_13
  have y0_14 := Lib.hid (y0_13.out.step (w' := w14) (fun k h1 h2 => hb.block k (by omega)))
  clear y0_13
  have bw00_14 := (hb.cell (p := ⟨w2.heap.size, 0, none⟩) (by show w2.heap.size < _; omega)).trans bw00_13
  clear bw00_13
  have bw01_14 := (hb.cell (p := ⟨w2.heap.size, 1, none⟩) (by show w2.heap.size < _; omega)).trans bw01_13
  clear bw01_13
  have bg00_14 := (hb.cell (p := ⟨w5.heap.size, 0, none⟩) (by show w5.heap.size < _; omega)).trans bg00_13
  clear bg00_13
  have bg01_14 := (hb.cell (p := ⟨w5.heap.size, 1, none⟩) (by show w5.heap.size < _; omega)).trans bg01_13
  clear bg01_13
  clear hb
  have z0_14 := Lib.hid ho
  clear ho
  go_wp2_with fail
  refine (implPlaneOfMols_c w14 z0A n0 n0 z0S xs0 z0_14.out.rd (HN0.out) hw0 (by omega)).mono ?_
  rintro e w15 ⟨⟨h0A, h0n, h0c, h0R, rfl, h0hn, ho⟩, hb⟩
  obtain rfl : w0n = h0n := HL.out.symm.trans h0hn
  clear h0hn
  have z15 : w14.heap.size ≤ w15.heap.size := hb.size
  have B15 : Below w.heap.size w w15 := B14.trans (hb.mono (by omega))
  have p0_15 := Lib.hid (p0_14.out.step (w' := w15) (fun k h1 h2 => hb.block k (by omega)))
  clear p0_14
  have w0_15 := Lib.hid (w0_14.out.step (w' := w15) (fun k h1 h2 => hb.block k (by omega)))
  clear w0_14
  have x0_15 := Lib.hid (x0_14.out.step (w' := w15) (fun k h1 h2 => hb.block k (by omega)))
  clear x0_14
  have g0_15 := Lib.hid (g0_14.out.step (w' := w15) (fun k h1 h2 => hb.block k (by omega)))
  clear g0_14
  have y0_15 := Lib.hid (y0_14.out.step (w' := w15) (fun k h1 h2 => hb.block k (by omega)))
  clear y0_14
  have z0_15 := Lib.hid (z0_14.out.step (w' := w15) (fun k h1 h2 => hb.block k (by omega)))
  clear z0_14
  have bw00_15 := (hb.cell (p := ⟨w2.heap.size, 0, none⟩) (by show w2.heap.size < _; omega)).trans bw00_14
  clear bw00_14
  have bw01_15 := (hb.cell (p := ⟨w2.heap.size, 1, none⟩) (by show w2.heap.size < _; omega)).trans bw01_14
  clear bw01_14
  have bg00_15 := (hb.cell (p := ⟨w5.heap.size, 0, none⟩) (by show w5.heap.size < _; omega)).trans bg00_14
  clear bg00_14
  have bg01_15 := (hb.cell (p := ⟨w5.heap.size, 1, none⟩) (by show w5.heap.size < _; omega)).trans bg01_14
  clear bg01_14
  clear hb
  have h0_15 := Lib.hid ho.in_
  clear ho
  have hb : Below w15.heap.size w15 (w15.alloc (.cells #[.int .i64 (pomP xs0), .slice h0A w0n h0c] 26)) := below_boxed _ _
  have qh0 : w15.heap.size < (w15.alloc (.cells #[.int .i64 (pomP xs0), .slice h0A w0n h0c] 26)).heap.size := by simp
  have bh00_16 : (w15.alloc (.cells #[.int .i64 (pomP xs0), .slice h0A w0n h0c] 26)).cell? ⟨w15.heap.size, 0, none⟩ = some (.int .i64 (pomP xs0)) := by simp [go_sem]
  have bh01_16 : (w15.alloc (.cells #[.int .i64 (pomP xs0), .slice h0A w0n h0c] 26)).cell? ⟨w15.heap.size, 1, none⟩ = some (.slice h0A w0n h0c) := by simp [go_sem]
  have ew00 := (hb.cell (p := ⟨w2.heap.size, 0, none⟩) (by show w2.heap.size < _; omega)).trans bw00_15
  have ew01 := (hb.cell (p := ⟨w2.heap.size, 1, none⟩) (by show w2.heap.size < _; omega)).trans bw01_15
  have eg00 := (hb.cell (p := ⟨w5.heap.size, 0, none⟩) (by show w5.heap.size < _; omega)).trans bg00_15
  have eg01 := (hb.cell (p := ⟨w5.heap.size, 1, none⟩) (by show w5.heap.size < _; omega)).trans bg01_15
  go_wp2_with fail
  clear ew00 ew01
  clear eg00 eg01
  generalize (w15.alloc (.cells #[.int .i64 (pomP xs0), .slice h0A w0n h0c] 26)) = w16 at *
  have z16 : w15.heap.size ≤ w16.heap.size := hb.size
  have B16 : Below w.heap.size w w16 := B15.trans (hb.mono (by omega))
  have p0_16 := Lib.hid (p0_15.out.step (w' := w16) (fun k h1 h2 => hb.block k (by omega)))
  clear p0_15
  have w0_16 := Lib.hid (w0_15.out.step (w' := w16) (fun k h1 h2 => hb.block k (by omega)))
  clear w0_15
  have x0_16 := Lib.hid (x0_15.out.step (w' := w16) (fun k h1 h2 => hb.block k (by omega)))
  clear x0_15
  have g0_16 := Lib.hid (g0_15.out.step (w' := w16) (fun k h1 h2 => hb.block k (by omega)))
  clear g0_15
  have y0_16 := Lib.hid (y0_15.out.step (w' := w16) (fun k h1 h2 => hb.block k (by omega)))
  clear y0_15
  have z0_16 := Lib.hid (z0_15.out.step (w' := w16) (fun k h1 h2 => hb.block k (by omega)))
  clear z0_15
  have h0_16 := Lib.hid (h0_15.out.step (w' := w16) (fun k h1 h2 => hb.block k (by omega)))
  clear h0_15
  have bw00_16 := (hb.cell (p := ⟨w2.heap.size, 0, none⟩) (by show w2.heap.size < _; omega)).trans bw00_15
  clear bw00_15
  have bw01_16 := (hb.cell (p := ⟨w2.heap.size, 1, none⟩) (by show w2.heap.size < _; omega)).trans bw01_15
  clear bw01_15
  have bg00_16 := (hb.cell (p := ⟨w5.heap.size, 0, none⟩) (by show w5.heap.size < _; omega)).trans bg00_15
  clear bg00_15
  have bg01_16 := (hb.cell (p := ⟨w5.heap.size, 1, none⟩) (by show w5.heap.size < _; omega)).trans bg01_15
  clear bg01_15
  clear hb
  go_wp2_with fail
  refine (eqD_v w16 (pomP xs0) h0_16.out.own.rd w0_16.out.own.rd (HL.out) (by have := HL.out; omega) (fun k hk => by have := row_small HS k hk; omega)).mono ?_
  rintro e w17 ⟨rfl, hb⟩
  have z17 : w16.heap.size ≤ w17.heap.size := hb.size
  have B17 : Below w.heap.size w w17 := B16.trans (hb.mono (by omega))
  have p0_17 := Lib.hid (p0_16.out.step (w' := w17) (fun k h1 h2 => hb.block k (by omega)))
  clear p0_16
  have w0_17 := Lib.hid (w0_16.out.step (w' := w17) (fun k h1 h2 => hb.block k (by omega)))
  clear w0_16
  have x0_17 := Lib.hid (x0_16.out.step (w' := w17) (fun k h1 h2 => hb.block k (by omega)))
  clear x0_16
  have g0_17 := Lib.hid (g0_16.out.step (w' := w17) (fun k h1 h2 => hb.block k (by omega)))
  clear g0_16
  have y0_17 := Lib.hid (y0_16.out.step (w' := w17) (fun k h1 h2 => hb.block k (by omega)))
  clear y0_16
  have z0_17 := Lib.hid (z0_16.out.step (w' := w17) (fun k h1 h2 => hb.block k (by omega)))
  clear z0_16
  have h0_17 := Lib.hid (h0_16.out.step (w' := w17) (fun k h1 h2 => hb.block k (by omega)))
  clear h0_16
  have bw00_17 := (hb.cell (p := ⟨w2.heap.size, 0, none⟩) (by show w2.heap.size < _; omega)).trans bw00_16
  clear bw00_16
  have bw01_17 := (hb.cell (p := ⟨w2.heap.size, 1, none⟩) (by show w2.heap.size < _; omega)).trans bw01_16
  clear bw01_16
  have bg00_17 := (hb.cell (p := ⟨w5.heap.size, 0, none⟩) (by show w5.heap.size < _; omega)).trans bg00_16
  clear bg00_16
  have bg01_17 := (hb.cell (p := ⟨w5.heap.size, 1, none⟩) (by show w5.heap.size < _; omega)).trans bg01_16
  clear bg01_16
  have bh00_17 := (hb.cell (p := ⟨w15.heap.size, 0, none⟩) (by show w15.heap.size < _; omega)).trans bh00_16
  clear bh00_16
  have bh01_17 := (hb.cell (p := ⟨w15.heap.size, 1, none⟩) (by show w15.heap.size < _; omega)).trans bh01_16
  clear bh01_16
  clear hb
  go_wp2_with fail
  refine (heldD_v w17 (pomP xs0) (1) g0_17.out.own.rd (g0HM.out) (HL.out) (by omega) (by omega)).mono ?_
  rintro e w18 ⟨rfl, hb⟩
  have z18 : w17.heap.size ≤ w18.heap.size := hb.size
  have B18 : Below w.heap.size w w18 := B17.trans (hb.mono (by omega))
  have p0_18 := Lib.hid (p0_17.out.step (w' := w18) (fun k h1 h2 => hb.block k (by omega)))
  clear p0_17
  have w0_18 := Lib.hid (w0_17.out.step (w' := w18) (fun k h1 h2 => hb.block k (by omega)))
  clear w0_17
  have x0_18 := Lib.hid (x0_17.out.step (w' := w18) (fun k h1 h2 => hb.block k (by omega)))
  clear x0_17
  have g0_18 := Lib.hid (g0_17.out.step (w' := w18) (fun k h1 h2 => hb.block k (by omega)))
  clear g0_17
  have y0_18 := Lib.hid (y0_17.out.step (w' := w18) (fun k h1 h2 => hb.block k (by omega)))
  clear y0_17
  have z0_18 := Lib.hid (z0_17.out.step (w' := w18) (fun k h1 h2 => hb.block k (by omega)))
  clear z0_17
  have h0_18 := Lib.hid (h0_17.out.step (w' := w18) (fun k h1 h2 => hb.block k (by omega)))
  clear h0_17
  have bw00_18 := (hb.cell (p := ⟨w2.heap.size, 0, none⟩) (by show w2.heap.size < _; omega)).trans bw00_17
  clear bw00_17
  have bw01_18 := (hb.cell (p := ⟨w2.heap.size, 1, none⟩) (by show w2.heap.size < _; omega)).trans bw01_17
  clear bw01_17
  have bg00_18 := (hb.cell (p := ⟨w5.heap.size, 0, none⟩) (by show w5.heap.size < _; omega)).trans bg00_17
  clear bg00_17
  have bg01_18 := (hb.cell (p := ⟨w5.heap.size, 1, none⟩) (by show w5.heap.size < _; omega)).trans bg01_17
  clear bg01_17
  have bh00_18 := (hb.cell (p := ⟨w15.heap.size, 0, none⟩) (by show w15.heap.size < _; omega)).trans bh00_17
  clear bh00_17
  have bh01_18 := (hb.cell (p := ⟨w15.heap.size, 1, none⟩) (by show w15.heap.size < _; omega)).trans bh01_17
  clear bh01_17
  clear hb
  go_wp2
  go_ret
  exact ⟨rfl, B18⟩

theorem walk (w : World) (A0 : Option Addr) (n0 c0 : Nat) (S0 : Spine3) (xs0 : List (List (List Int))) (hr0 : RdL w A0 c0 S0 xs0) (hn0 : xs0.length = n0) (hw0 : WfT xs0) :
    Calls Try.prog 3 #[.slice A0 n0 c0] w fun e w' => e = .returned (.bool true) ∧ Below w.heap.size w w' := by
  rcases Int.lt_or_le 1048576 (((n0 : Int) + (wgt xs0 : Nat))) with h0 | h0
  · exact walkOut0 w A0 n0 c0 S0 xs0 hr0 hn0 hw0  h0
  exact walkIn w A0 n0 c0 S0 xs0 hr0 hn0 hw0 h0

set_option maxRecDepth 100000 in
theorem lifted (os : Os) (started : os.Started) (H : Type) (enc : TypeId × Value → H) :
    ReturnsInHanded {} Try.checked os 3 .any (Rows.fnExactPlaneOfMolsSpec.pre6 enc Try.prog Try.f3 Rows.fnExactPlaneOfMolsRow.domain false) (Rows.fnExactPlaneOfMolsSpec.post enc Try.prog Try.f3 false true false false) := by
  refine returnsInHanded_of_change (C := Try.checked) own started (by kernel_rfl) Try.func3
    (ChangeSpec.witness6 (enc := enc) (C := Try.checked) false ⟨#[], #[.slice none 0 0], []⟩ 8 (by kernel_rfl) (by kernel_rfl) (by kernel_rfl) (by kernel_rfl)) ?_
  intro W base args ds gs before hval0 hW hcnd _
  have hval : ∀ (j : Nat) t v, Try.f3.params[j]? = some t → args[j]? = some v → Value.okWide Try.prog W .any base t v := hval0
  have hW' := hW
  obtain ⟨p, q, hA0, hV, rfl, hfz, hnd⟩ := hW
  have hA : DataW.TrodAll enc Try.prog W 0 (fun _ => true) true Try.f3.params.toList args.toList ds p := hA0
  rw [Try.params3] at hA hval
  obtain ⟨v0, vs0, d0, ds0, p0, q0, hargs, rfl, rfl, h0, r0⟩ := trodAll_cons hA
  obtain ⟨rfl, rfl, rfl⟩ := trodAll_nil r0
  obtain rfl : args = #[v0] := by cases args; simp_all
  obtain ⟨rfl, rfl⟩ := trodVars_none hV
  obtain ⟨A0, n0, c0, rfl⟩ := okWide_slice Try.underlying22 (hval 0 22 v0 rfl rfl)
  have k0 := h0
  have lt0 : ∀ x ∈ p0, x.block < W.heap.size := by obtain ⟨m, hm⟩ := k0; exact DataW.trod_lt m _ _ _ hm
  obtain ⟨S0, xs0, hr0, hn0, hw0⟩ := open_L h0
  clear hA0 hval0
  refine (walk W A0 n0 c0 S0 xs0 hr0 hn0 hw0).mono fun e W' ⟨he, bel⟩ => ?_
  subst he
  exact ⟨_, rfl, _, _, _, [], _, [], hW', trodAll_mk1 (shut_bool Try.underlying4 _), (trodAll_cons_mk (Below.trod laidOut (by kernel_rfl) (of_decide_eq_true (by kernel_rfl)) k0 bel lt0) trodAll_mk0), rfl, bel.frame _, fun h => by cases h⟩

theorem over : Rows.fnExactPlaneOfMolsRow.holds Try.pinned (OpenSpec.ofChange Rows.fnExactPlaneOfMolsSpec) :=
  OpenClaim.holds_of_wide 3 Try.f3 rfl rfl rfl rfl rfl rfl rfl ⟨rfl, rfl, rfl, rfl, rfl⟩ rfl rfl rfl rfl rfl (by kernel_rfl) Try.func3 (by kernel_rfl)
    (of_decide_eq_true (by kernel_rfl)) (by unfold Func.isWrapper; first | (rw [if_pos (by decide +kernel)]; kernel_rfl) | (rw [if_neg (by decide +kernel)]; exact ⟨rfl, rfl⟩))
    (fun os started H enc _ => lifted os started H enc)

/-- The statement. -/
theorem proved : Rows.FnExactPlaneOfMolsSaid := over
#print axioms proved
end Go.Proofs.Ythgbfgdnljgicaa.lawPlaneOfMols
