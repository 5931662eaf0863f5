/-
  The program's DesignOfSchedule returns what the reference's returns: the statement FnExactDesignOfScheduleSaid. Conditions: none.
-/
import Derived.Test.YtamklliaibfljaaRows
import Derived.Test.YtamklliaibfljaaDsI
import Derived.Test.YtamklliaibfljaaDsS
import Derived.Test.YtamklliaibfljaaDFrame
import Derived.Test.YtamklliaibfljaaDsg
import Derived.Deep.RegionHeld3
import Derived.Test.YtamklliaibfljaaTFrame
namespace Go.Proofs.Ytamklliaibfljaa.lawDesignOfSchedule
open Go.ChangeShapes Go.WideShapes Go.ChangeAt Go.RowKit Go.Deep
set_option linter.unusedVariables false
set_option linter.unusedSimpArgs false

theorem own : ownKnob Try.prog.godebug = none := by kernel_rfl
theorem laidOut : laidOutB Try.prog = true := by kernel_rfl

set_option maxHeartbeats 400000 in
theorem walkOut1 (w : World) (x0 : Int) (hb0 : -9223372036854775808 ≤ x0 ∧ x0 ≤ 9223372036854775807) (A1 : Option Addr) (n1 c1 : Nat) (S1 : Spine3) (xs1 : List (List (List Int))) (hr1 : RdL w A1 c1 S1 xs1) (hn1 : xs1.length = n1) (hw1 : WfT xs1) (hz : 1048576 < ((n1 : Int) + (wgt xs1 : Nat))) :
    Calls Try.prog 3 #[.int .i64 x0, .slice A1 n1 c1] w fun e w' => e = .returned (.bool true) ∧ Below w.heap.size w w' := by
  have HR1 := Lib.hid hr1
  have HN1 := Lib.hid hn1
  have hm1 : n1 ≤ 9223372036854775807 := by have h1 := hr1.le; have h2 := hr1.cap; unfold maxLen at h2; omega
  clear hr1 hn1
  go_enter Try.func3, Try.ntmps3
  go_wp2_with fail
  refine (szL_out w A1 n1 c1 S1 xs1 (1048576) (HR1.out) (HN1.out) (by omega) (by omega) (by omega)).mono ?_
  rintro e w' ⟨rfl, rfl⟩
  go_wp2
  go_ret
  exact ⟨rfl, Below.refl _ _⟩

set_option maxHeartbeats 4000000 in
set_option maxRecDepth 100000 in
theorem walkIn (w : World) (x0 : Int) (hb0 : -9223372036854775808 ≤ x0 ∧ x0 ≤ 9223372036854775807) (A1 : Option Addr) (n1 c1 : Nat) (S1 : Spine3) (xs1 : List (List (List Int))) (hr1 : RdL w A1 c1 S1 xs1) (hn1 : xs1.length = n1) (hw1 : WfT xs1) (hz1 : ((n1 : Int) + (wgt xs1 : Nat)) ≤ 1048576) :
    Calls Try.prog 3 #[.int .i64 x0, .slice A1 n1 c1] w fun e w' => e = .returned (.bool true) ∧ Below w.heap.size w w' := by
  have hsmall : (dsX x0 xs1).length ≤ 1048576 := (DesignOfSchedule_small x0 xs1 (Nat.le_trans (Nat.le_of_eq hn1) (by omega))).1.1
  have HS : tot (dsX x0 xs1) ≤ 1048576 := (DesignOfSchedule_small x0 xs1 (Nat.le_trans (Nat.le_of_eq hn1) (by omega))).1.2
  have hsmallb : (dsM x0 xs1).length ≤ 1048576 := (DesignOfSchedule_small x0 xs1 (Nat.le_trans (Nat.le_of_eq hn1) (by omega))).2.1
  have HSb : tot (dsM x0 xs1) ≤ 1048576 := (DesignOfSchedule_small x0 xs1 (Nat.le_trans (Nat.le_of_eq hn1) (by omega))).2.2
  have HT1 : wgt xs1 ≤ 1048576 := by omega
  have hc1 := cnt3_le_wgt xs1
  have HR1 := Lib.hid hr1
  have HN1 := Lib.hid hn1
  have hm1 : n1 ≤ 9223372036854775807 := by have h1 := hr1.le; have h2 := hr1.cap; unfold maxLen at h2; omega
  clear hr1 hn1
  go_enter Try.func3, Try.ntmps3
  go_wp2_with fail
  refine (szL_in w A1 n1 c1 S1 xs1 (1048576) (HR1.out) (HN1.out) (by omega) (by omega)).mono ?_
  rintro e w' ⟨rfl, rfl⟩
  go_wp2_with fail
  refine (toL w A1 n1 c1 S1 xs1 ((HR1.out).below (Below.refl _ _)) (HN1.out) (by omega) HT1).mono ?_
  rintro e w1 ⟨⟨p1A, p1S, p1I, rfl, ho⟩, hb⟩
  have z1 : w.heap.size ≤ w1.heap.size := hb.size
  have B1 : Below w.heap.size w w1 := (hb.mono (by omega))
  clear hb
  have p1_1 := Lib.hid ho
  clear ho
  go_wp2_with fail
  refine (specDesignOfSchedule_c w1 x0 hb0 p1A n1 n1 p1S xs1 p1_1.out.rd (HN1.out) hw1 (by omega)).mono ?_
  rintro e w2 ⟨⟨w0A, w0n, w0c, w0R, w0Ab, w0nb, w0cb, w0Rb, w0m, rfl, w0hn, w0hnb, w0m1, w0m2, ho, hob⟩, hb⟩
  have HL := Lib.hid w0hn
  have hsm : w0n ≤ 1048576 := by have := hsmall; have h2 := HL.out; omega
  clear w0hn
  have HLb := Lib.hid w0hnb
  have hsmb : w0nb ≤ 1048576 := by have := hsmallb; have h2 := HLb.out; omega
  clear w0hnb
  have z2 : w1.heap.size ≤ w2.heap.size := hb.size
  have B2 : Below w.heap.size w w2 := B1.trans (hb.mono (by omega))
  have p1_2 := Lib.hid (p1_1.out.step (w' := w2) (fun k h1 h2 => hb.block k (by omega)))
  clear p1_1
  clear hb
  have w0_2 := Lib.hid ho
  clear ho
  have ho := hob
  clear hob
  have w0b_2 := Lib.hid ho
  clear ho
  have hb : Below w2.heap.size w2 (w2.alloc (.cells #[.int .i64 (dsP x0 xs1), .slice w0A w0n w0c] 26)) := below_boxed _ _
  have qw0 : w2.heap.size < (w2.alloc (.cells #[.int .i64 (dsP x0 xs1), .slice w0A w0n w0c] 26)).heap.size := by simp
  have bw00_3 : (w2.alloc (.cells #[.int .i64 (dsP x0 xs1), .slice w0A w0n w0c] 26)).cell? ⟨w2.heap.size, 0, none⟩ = some (.int .i64 (dsP x0 xs1)) := by simp [go_sem]
  have bw01_3 : (w2.alloc (.cells #[.int .i64 (dsP x0 xs1), .slice w0A w0n w0c] 26)).cell? ⟨w2.heap.size, 1, none⟩ = some (.slice w0A w0n w0c) := by simp [go_sem]
  go_wp2_with fail
  generalize (w2.alloc (.cells #[.int .i64 (dsP x0 xs1), .slice w0A w0n w0c] 26)) = w3 at *
  have z3 : w2.heap.size ≤ w3.heap.size := hb.size
  have B3 : Below w.heap.size w w3 := B2.trans (hb.mono (by omega))
  have p1_3 := Lib.hid (p1_2.out.step (w' := w3) (fun k h1 h2 => hb.block k (by omega)))
  clear p1_2
  have w0_3 := Lib.hid (w0_2.out.step (w' := w3) (fun k h1 h2 => hb.block k (by omega)))
  clear w0_2
  have w0b_3 := Lib.hid (w0b_2.out.step (w' := w3) (fun k h1 h2 => hb.block k (by omega)))
  clear w0b_2
  clear hb
  go_wp2_with fail
  refine (toL w3 A1 n1 c1 S1 xs1 ((HR1.out).below B3) (HN1.out) (by omega) HT1).mono ?_
  rintro e w4 ⟨⟨x1A, x1S, x1I, rfl, ho⟩, hb⟩
  have z4 : w3.heap.size ≤ w4.heap.size := hb.size
  have B4 : Below w.heap.size w w4 := B3.trans (hb.mono (by omega))
  have p1_4 := Lib.hid (p1_3.out.step (w' := w4) (fun k h1 h2 => hb.block k (by omega)))
  clear p1_3
  have w0_4 := Lib.hid (w0_3.out.step (w' := w4) (fun k h1 h2 => hb.block k (by omega)))
  clear w0_3
  have w0b_4 := Lib.hid (w0b_3.out.step (w' := w4) (fun k h1 h2 => hb.block k (by omega)))
  clear w0b_3
  have bw00_4 := (hb.cell (p := ⟨w2.heap.size, 0, none⟩) (by show w2.heap.size < _; omega)).trans bw00_3
  clear bw00_3
  have bw01_4 := (hb.cell (p := ⟨w2.heap.size, 1, none⟩) (by show w2.heap.size < _; omega)).trans bw01_3
  clear bw01_3
  clear hb
  have x1_4 := Lib.hid ho
  clear ho
  go_wp2_with fail
  refine (implDesignOfSchedule_c w4 x0 hb0 x1A n1 n1 x1S xs1 x1_4.out.rd (HN1.out) hw1 (by omega)).mono ?_
  rintro e w5 ⟨⟨g0A, g0n, g0c, g0R, g0Ab, g0nb, g0cb, g0Rb, g0m, rfl, g0hn, g0hnb, g0m1, g0m2, ho, hob⟩, hb⟩
  obtain rfl : w0n = g0n := HL.out.symm.trans g0hn
  obtain rfl : w0nb = g0nb := HLb.out.symm.trans g0hnb
  clear g0hn g0hnb
  have z5 : w4.heap.size ≤ w5.heap.size := hb.size
  have B5 : Below w.heap.size w w5 := B4.trans (hb.mono (by omega))
  have p1_5 := Lib.hid (p1_4.out.step (w' := w5) (fun k h1 h2 => hb.block k (by omega)))
  clear p1_4
  have w0_5 := Lib.hid (w0_4.out.step (w' := w5) (fun k h1 h2 => hb.block k (by omega)))
  clear w0_4
  have w0b_5 := Lib.hid (w0b_4.out.step (w' := w5) (fun k h1 h2 => hb.block k (by omega)))
  clear w0b_4
  have x1_5 := Lib.hid (x1_4.out.step (w' := w5) (fun k h1 h2 => hb.block k (by omega)))
  clear x1_4
  have bw00_5 := (hb.cell (p := ⟨w2.heap.size, 0, none⟩) (by show w2.heap.size < _; omega)).trans bw00_4
  clear bw00_4
  have bw01_5 := (hb.cell (p := ⟨w2.heap.size, 1, none⟩) (by show w2.heap.size < _; omega)).trans bw01_4
  clear bw01_4
  clear hb
  have g0_5 := Lib.hid ho
  clear ho
  have ho := hob
  clear hob
  have g0b_5 := Lib.hid ho
  clear ho
  have hb : Below w5.heap.size w5 (w5.alloc (.cells #[.int .i64 (dsP x0 xs1), .slice g0A w0n g0c] 26)) := below_boxed _ _
  have qg0 : w5.heap.size < (w5.alloc (.cells #[.int .i64 (dsP x0 xs1), .slice g0A w0n g0c] 26)).heap.size := by simp
  have bg00_6 : (w5.alloc (.cells #[.int .i64 (dsP x0 xs1), .slice g0A w0n g0c] 26)).cell? ⟨w5.heap.size, 0, none⟩ = some (.int .i64 (dsP x0 xs1)) := by simp [go_sem]
  have bg01_6 : (w5.alloc (.cells #[.int .i64 (dsP x0 xs1), .slice g0A w0n g0c] 26)).cell? ⟨w5.heap.size, 1, none⟩ = some (.slice g0A w0n g0c) := by simp [go_sem]
  have ew00 := (hb.cell (p := ⟨w2.heap.size, 0, none⟩) (by show w2.heap.size < _; omega)).trans bw00_5
  have ew01 := (hb.cell (p := ⟨w2.heap.size, 1, none⟩) (by show w2.heap.size < _; omega)).trans bw01_5
  go_wp2_with fail
  clear ew00 ew01
  generalize (w5.alloc (.cells #[.int .i64 (dsP x0 xs1), .slice g0A w0n g0c] 26)) = w6 at *
  have z6 : w5.heap.size ≤ w6.heap.size := hb.size
  have B6 : Below w.heap.size w w6 := B5.trans (hb.mono (by omega))
  have p1_6 := Lib.hid (p1_5.out.step (w' := w6) (fun k h1 h2 => hb.block k (by omega)))
  clear p1_5
  have w0_6 := Lib.hid (w0_5.out.step (w' := w6) (fun k h1 h2 => hb.block k (by omega)))
  clear w0_5
  have w0b_6 := Lib.hid (w0b_5.out.step (w' := w6) (fun k h1 h2 => hb.block k (by omega)))
  clear w0b_5
  have x1_6 := Lib.hid (x1_5.out.step (w' := w6) (fun k h1 h2 => hb.block k (by omega)))
  clear x1_5
  have g0_6 := Lib.hid (g0_5.out.step (w' := w6) (fun k h1 h2 => hb.block k (by omega)))
  clear g0_5
  have g0b_6 := Lib.hid (g0b_5.out.step (w' := w6) (fun k h1 h2 => hb.block k (by omega)))
  clear g0b_5
  have bw00_6 := (hb.cell (p := ⟨w2.heap.size, 0, none⟩) (by show w2.heap.size < _; omega)).trans bw00_5
  clear bw00_5
  have bw01_6 := (hb.cell (p := ⟨w2.heap.size, 1, none⟩) (by show w2.heap.size < _; omega)).trans bw01_5
  clear bw01_5
  clear hb
  go_wp2_with fail
  refine (eqD_v w6 (dsP x0 xs1) g0_6.out.own.rd w0_6.out.own.rd (HL.out) (by have := HL.out; omega) (fun k hk => by have := row_small HS k hk; omega)).mono ?_
  rintro e w7 ⟨rfl, hb⟩
  have z7 : w6.heap.size ≤ w7.heap.size := hb.size
  have B7 : Below w.heap.size w w7 := B6.trans (hb.mono (by omega))
  have p1_7 := Lib.hid (p1_6.out.step (w' := w7) (fun k h1 h2 => hb.block k (by omega)))
  clear p1_6
  have w0_7 := Lib.hid (w0_6.out.step (w' := w7) (fun k h1 h2 => hb.block k (by omega)))
  clear w0_6
  have w0b_7 := Lib.hid (w0b_6.out.step (w' := w7) (fun k h1 h2 => hb.block k (by omega)))
  clear w0b_6
  have x1_7 := Lib.hid (x1_6.out.step (w' := w7) (fun k h1 h2 => hb.block k (by omega)))
  clear x1_6
  have g0_7 := Lib.hid (g0_6.out.step (w' := w7) (fun k h1 h2 => hb.block k (by omega)))
  clear g0_6
  have g0b_7 := Lib.hid (g0b_6.out.step (w' := w7) (fun k h1 h2 => hb.block k (by omega)))
  clear g0b_6
  have bw00_7 := (hb.cell (p := ⟨w2.heap.size, 0, none⟩) (by show w2.heap.size < _; omega)).trans bw00_6
  clear bw00_6
  have bw01_7 := (hb.cell (p := ⟨w2.heap.size, 1, none⟩) (by show w2.heap.size < _; omega)).trans bw01_6
  clear bw01_6
  have bg00_7 := (hb.cell (p := ⟨w5.heap.size, 0, none⟩) (by show w5.heap.size < _; omega)).trans bg00_6
  clear bg00_6
  have bg01_7 := (hb.cell (p := ⟨w5.heap.size, 1, none⟩) (by show w5.heap.size < _; omega)).trans bg01_6
  clear bg01_6
  clear hb
  go_wp2_with fail
  refine (eqSS_v w7 g0b_7.out.own.rd w0b_7.out.own.rd (HLb.out) (by have := HLb.out; omega) (fun k hk => by have := row_small HSb k hk; omega)).mono ?_
  rintro e w8 ⟨rfl, hb⟩
  have z8 : w7.heap.size ≤ w8.heap.size := hb.size
  have B8 : Below w.heap.size w w8 := B7.trans (hb.mono (by omega))
  have p1_8 := Lib.hid (p1_7.out.step (w' := w8) (fun k h1 h2 => hb.block k (by omega)))
  clear p1_7
  have w0_8 := Lib.hid (w0_7.out.step (w' := w8) (fun k h1 h2 => hb.block k (by omega)))
  clear w0_7
  have w0b_8 := Lib.hid (w0b_7.out.step (w' := w8) (fun k h1 h2 => hb.block k (by omega)))
  clear w0b_7
  have x1_8 := Lib.hid (x1_7.out.step (w' := w8) (fun k h1 h2 => hb.block k (by omega)))
  clear x1_7
  have g0_8 := Lib.hid (g0_7.out.step (w' := w8) (fun k h1 h2 => hb.block k (by omega)))
  clear g0_7
  have g0b_8 := Lib.hid (g0b_7.out.step (w' := w8) (fun k h1 h2 => hb.block k (by omega)))
  clear g0b_7
  have bw00_8 := (hb.cell (p := ⟨w2.heap.size, 0, none⟩) (by show w2.heap.size < _; omega)).trans bw00_7
  clear bw00_7
  have bw01_8 := (hb.cell (p := ⟨w2.heap.size, 1, none⟩) (by show w2.heap.size < _; omega)).trans bw01_7
  clear bw01_7
  have bg00_8 := (hb.cell (p := ⟨w5.heap.size, 0, none⟩) (by show w5.heap.size < _; omega)).trans bg00_7
  clear bg00_7
  have bg01_8 := (hb.cell (p := ⟨w5.heap.size, 1, none⟩) (by show w5.heap.size < _; omega)).trans bg01_7
  clear bg01_7
  clear hb
  go_wp2_with fail
  refine (toL w8 A1 n1 c1 S1 xs1 ((HR1.out).below B8) (HN1.out) (by omega) HT1).mono ?_
  rintro e w9 ⟨⟨y1A, y1S, y1I, rfl, ho⟩, hb⟩
  have z9 : w8.heap.size ≤ w9.heap.size := hb.size
  have B9 : Below w.heap.size w w9 := B8.trans (hb.mono (by omega))
  have p1_9 := Lib.hid (p1_8.out.step (w' := w9) (fun k h1 h2 => hb.block k (by omega)))
  clear p1_8
  have w0_9 := Lib.hid (w0_8.out.step (w' := w9) (fun k h1 h2 => hb.block k (by omega)))
  clear w0_8
  have w0b_9 := Lib.hid (w0b_8.out.step (w' := w9) (fun k h1 h2 => hb.block k (by omega)))
  clear w0b_8
  have x1_9 := Lib.hid (x1_8.out.step (w' := w9) (fun k h1 h2 => hb.block k (by omega)))
  clear x1_8
  have g0_9 := Lib.hid (g0_8.out.step (w' := w9) (fun k h1 h2 => hb.block k (by omega)))
  clear g0_8
  have g0b_9 := Lib.hid (g0b_8.out.step (w' := w9) (fun k h1 h2 => hb.block k (by omega)))
  clear g0b_8
  have bw00_9 := (hb.cell (p := ⟨w2.heap.size, 0, none⟩) (by show w2.heap.size < _; omega)).trans bw00_8
  clear bw00_8
  have bw01_9 := (hb.cell (p := ⟨w2.heap.size, 1, none⟩) (by show w2.heap.size < _; omega)).trans bw01_8
  clear bw01_8
  have bg00_9 := (hb.cell (p := ⟨w5.heap.size, 0, none⟩) (by show w5.heap.size < _; omega)).trans bg00_8
  clear bg00_8
  have bg01_9 := (hb.cell (p := ⟨w5.heap.size, 1, none⟩) (by show w5.heap.size < _; omega)).trans bg01_8
  clear bg01_8
  clear hb
  have y1_9 := Lib.hid ho
  clear ho
  go_wp2_with fail
  refine (eqL_v w9 x1_9.out.rd y1_9.out.rd (HN1.out) (by have := HN1.out; omega) HT1).mono ?_
  rintro e w10 ⟨rfl, hb⟩
  have z10 : w9.heap.size ≤ w10.heap.size := hb.size
  have B10 : Below w.heap.size w w10 := B9.trans (hb.mono (by omega))
  have p1_10 := Lib.hid (p1_9.out.step (w' := w10) (fun k h1 h2 => hb.block k (by omega)))
  clear p1_9
  have w0_10 := Lib.hid (w0_9.out.step (w' := w10) (fun k h1 h2 => hb.block k (by omega)))
  clear w0_9
  have w0b_10 := Lib.hid (w0b_9.out.step (w' := w10) (fun k h1 h2 => hb.block k (by omega)))
  clear w0b_9
  have x1_10 := Lib.hid (x1_9.out.step (w' := w10) (fun k h1 h2 => hb.block k (by omega)))
  clear x1_9
  have g0_10 := Lib.hid (g0_9.out.step (w' := w10) (fun k h1 h2 => hb.block k (by omega)))
  clear g0_9
  have g0b_10 := Lib.hid (g0b_9.out.step (w' := w10) (fun k h1 h2 => hb.block k (by omega)))
  clear g0b_9
  have y1_10 := Lib.hid (y1_9.out.step (w' := w10) (fun k h1 h2 => hb.block k (by omega)))
  clear y1_9
  have bw00_10 := (hb.cell (p := ⟨w2.heap.size, 0, none⟩) (by show w2.heap.size < _; omega)).trans bw00_9
  clear bw00_9
  have bw01_10 := (hb.cell (p := ⟨w2.heap.size, 1, none⟩) (by show w2.heap.size < _; omega)).trans bw01_9
  clear bw01_9
  have bg00_10 := (hb.cell (p := ⟨w5.heap.size, 0, none⟩) (by show w5.heap.size < _; omega)).trans bg00_9
  clear bg00_9
  have bg01_10 := (hb.cell (p := ⟨w5.heap.size, 1, none⟩) (by show w5.heap.size < _; omega)).trans bg01_9
  clear bg01_9
  clear hb
  go_wp2_with fail
  refine (markL_v w10 (1) x1_10.out (HN1.out) (by omega) (by omega)).mono ?_
  rintro e w11 ⟨rfl, ⟨x1Y, ho, x1hM⟩, hb⟩
  have z11 : w10.heap.size ≤ w11.heap.size := hb.size
  have B11 : Below w.heap.size w w11 := B10.trans (hb.below (by omega) (by omega))
  have p1_11 := Lib.hid (p1_10.out.step (w' := w11) (fun k h1 h2 => hb.block k (by omega) (by first | exact Or.inl (by omega) | exact Or.inr (by omega))))
  clear p1_10
  have w0_11 := Lib.hid (w0_10.out.step (w' := w11) (fun k h1 h2 => hb.block k (by omega) (by first | exact Or.inl (by omega) | exact Or.inr (by omega))))
  clear w0_10
  have w0b_11 := Lib.hid (w0b_10.out.step (w' := w11) (fun k h1 h2 => hb.block k (by omega) (by first | exact Or.inl (by omega) | exact Or.inr (by omega))))
  clear w0b_10
  have g0_11 := Lib.hid (g0_10.out.step (w' := w11) (fun k h1 h2 => hb.block k (by omega) (by first | exact Or.inl (by omega) | exact Or.inr (by omega))))
  clear g0_10
  have g0b_11 := Lib.hid (g0b_10.out.step (w' := w11) (fun k h1 h2 => hb.block k (by omega) (by first | exact Or.inl (by omega) | exact Or.inr (by omega))))
  clear g0b_10
  have y1_11 := Lib.hid (y1_10.out.step (w' := w11) (fun k h1 h2 => hb.block k (by omega) (by first | exact Or.inl (by omega) | exact Or.inr (by omega))))
  clear y1_10
  have bw00_11 := (World.cell?_of_block (a := ⟨w2.heap.size, 0, none⟩) (hb.block (w2.heap.size) (by omega) (by first | exact Or.inl (by omega) | exact Or.inr (by omega)))).trans bw00_10
  clear bw00_10
  have bw01_11 := (World.cell?_of_block (a := ⟨w2.heap.size, 1, none⟩) (hb.block (w2.heap.size) (by omega) (by first | exact Or.inl (by omega) | exact Or.inr (by omega)))).trans bw01_10
  clear bw01_10
  have bg00_11 := (World.cell?_of_block (a := ⟨w5.heap.size, 0, none⟩) (hb.block (w5.heap.size) (by omega) (by first | exact Or.inl (by omega) | exact Or.inr (by omega)))).trans bg00_10
  clear bg00_10
  have bg01_11 := (World.cell?_of_block (a := ⟨w5.heap.size, 1, none⟩) (hb.block (w5.heap.size) (by omega) (by first | exact Or.inl (by omega) | exact Or.inr (by omega)))).trans bg01_10
  clear bg01_10
  clear hb
  have x1_11 := Lib.hid ho
  clear ho x1_10
  have x1HM := Lib.hid x1hM
  clear x1hM
  go_wp2_with fail
  refine (eqD_v w11 (dsP x0 xs1) g0_11.out.own.rd w0_11.out.own.rd (HL.out) (by have := HL.out; omega) (fun k hk => by have := row_small HS k hk; omega)).mono ?_
  rintro e w12 ⟨rfl, hb⟩
  have z12 : w11.heap.size ≤ w12.heap.size := hb.size
  have B12 : Below w.heap.size w w12 := B11.trans (hb.mono (by omega))
  have p1_12 := Lib.hid (p1_11.out.step (w' := w12) (fun k h1 h2 => hb.block k (by omega)))
  clear p1_11
  have w0_12 := Lib.hid (w0_11.out.step (w' := w12) (fun k h1 h2 => hb.block k (by omega)))
  clear w0_11
  have w0b_12 := Lib.hid (w0b_11.out.step (w' := w12) (fun k h1 h2 => hb.block k (by omega)))
  clear w0b_11
  have x1_12 := Lib.hid (x1_11.out.step (w' := w12) (fun k h1 h2 => hb.block k (by omega)))
  clear x1_11
  have g0_12 := Lib.hid (g0_11.out.step (w' := w12) (fun k h1 h2 => hb.block k (by omega)))
  clear g0_11
  have g0b_12 := Lib.hid (g0b_11.out.step (w' := w12) (fun k h1 h2 => hb.block k (by omega)))
  clear g0b_11
  have y1_12 := Lib.hid (y1_11.out.step (w' := w12) (fun k h1 h2 => hb.block k (by omega)))
  clear y1_11
  have bw00_12 := (hb.cell (p := ⟨w2.heap.size, 0, none⟩) (by show w2.heap.size < _; omega)).trans bw00_11
  clear bw00_11
  have bw01_12 := (hb.cell (p := ⟨w2.heap.size, 1, none⟩) (by show w2.heap.size < _; omega)).trans bw01_11
  clear bw01_11
  have bg00_12 := (hb.cell (p := ⟨w5.heap.size, 0, none⟩) (by show w5.heap.size < _; omega)).trans bg00_11
  clear bg00_11
  have bg01_12 := (hb.cell (p := ⟨w5.heap.size, 1, none⟩) (by show w5.heap.size < _; omega)).trans bg01_11
  clear bg01_11
  clear hb
  go_wp2_with fail
  refine (eqSS_v w12 g0b_12.out.own.rd w0b_12.out.own.rd (HLb.out) (by have := HLb.out; omega) (fun k hk => by have := row_small HSb k hk; omega)).mono ?_
  rintro e w13 ⟨rfl, hb⟩
  have z13 : w12.heap.size ≤ w13.heap.size := hb.size
  have B13 : Below w.heap.size w w13 := B12.trans (hb.mono (by omega))
  have p1_13 := Lib.hid (p1_12.out.step (w' := w13) (fun k h1 h2 => hb.block k (by omega)))
  clear p1_12
  have w0_13 := Lib.hid (w0_12.out.step (w' := w13) (fun k h1 h2 => hb.block k (by omega)))
  clear w0_12
  have w0b_13 := Lib.hid (w0b_12.out.step (w' := w13) (fun k h1 h2 => hb.block k (by omega)))
  clear w0b_12
  have x1_13 := Lib.hid (x1_12.out.step (w' := w13) (fun k h1 h2 => hb.block k (by omega)))
  clear x1_12
  have g0_13 := Lib.hid (g0_12.out.step (w' := w13) (fun k h1 h2 => hb.block k (by omega)))
  clear g0_12
  have g0b_13 := Lib.hid (g0b_12.out.step (w' := w13) (fun k h1 h2 => hb.block k (by omega)))
  clear g0b_12
  have y1_13 := Lib.hid (y1_12.out.step (w' := w13) (fun k h1 h2 => hb.block k (by omega)))
  clear y1_12
  have bw00_13 := (hb.cell (p := ⟨w2.heap.size, 0, none⟩) (by show w2.heap.size < _; omega)).trans bw00_12
  clear bw00_12
  have bw01_13 := (hb.cell (p := ⟨w2.heap.size, 1, none⟩) (by show w2.heap.size < _; omega)).trans bw01_12
  clear bw01_12
  have bg00_13 := (hb.cell (p := ⟨w5.heap.size, 0, none⟩) (by show w5.heap.size < _; omega)).trans bg00_12
  clear bg00_12
  have bg01_13 := (hb.cell (p := ⟨w5.heap.size, 1, none⟩) (by show w5.heap.size < _; omega)).trans bg01_12
  clear bg01_12
  clear hb
  go_wp2_with fail
  refine (markD_v w13 (dsP x0 xs1) (1) g0_13.out (HL.out) (by omega) (by omega)).mono ?_
  rintro e w14 ⟨rfl, ⟨g0Y, ho, g0hM⟩, hb⟩
  have z14 : w13.heap.size ≤ w14.heap.size := hb.size
  have B14 : Below w.heap.size w w14 := B13.trans (hb.below (by omega) (by omega))
  have p1_14 := Lib.hid (p1_13.out.step (w' := w14) (fun k h1 h2 => hb.block k (by omega) (by first | exact Or.inl (by omega) | exact Or.inr (by omega))))
  clear p1_13
  have w0_14 := Lib.hid (w0_13.out.step (w' := w14) (fun k h1 h2 => hb.block k (by omega) (by first | exact Or.inl (by omega) | exact Or.inr (by omega))))
  clear w0_13
  have w0b_14 := Lib.hid (w0b_13.out.step (w' := w14) (fun k h1 h2 => hb.block k (by omega) (by first | exact Or.inl (by omega) | exact Or.inr (by omega))))
  clear w0b_13
  have x1_14 := Lib.hid (x1_13.out.step (w' := w14) (fun k h1 h2 => hb.block k (by omega) (by first | exact Or.inl (by omega) | exact Or.inr (by omega))))
  clear x1_13
  have g0b_14 := Lib.hid (g0b_13.out.step (w' := w14) (fun k h1 h2 => hb.block k (by omega) (by first | exact Or.inl (by omega) | exact Or.inr (by omega))))
  clear g0b_13
  have y1_14 := Lib.hid (y1_13.out.step (w' := w14) (fun k h1 h2 => hb.block k (by omega) (by first | exact Or.inl (by omega) | exact Or.inr (by omega))))
  clear y1_13
  have bw00_14 := (World.cell?_of_block (a := ⟨w2.heap.size, 0, none⟩) (hb.block (w2.heap.size) (by omega) (by first | exact Or.inl (by omega) | exact Or.inr (by omega)))).trans bw00_13
  clear bw00_13
  have bw01_14 := (World.cell?_of_block (a := ⟨w2.heap.size, 1, none⟩) (hb.block (w2.heap.size) (by omega) (by first | exact Or.inl (by omega) | exact Or.inr (by omega)))).trans bw01_13
  clear bw01_13
  have bg00_14 := (World.cell?_of_block (a := ⟨w5.heap.size, 0, none⟩) (hb.block (w5.heap.size) (by omega) (by first | exact Or.inl (by omega) | exact Or.inr (by omega)))).trans bg00_13
  clear bg00_13
  have bg01_14 := (World.cell?_of_block (a := ⟨w5.heap.size, 1, none⟩) (hb.block (w5.heap.size) (by omega) (by first | exact Or.inl (by omega) | exact Or.inr (by omega)))).trans bg01_13
  clear bg01_13
  clear hb
  have g0_14 := Lib.hid ho
  clear ho g0_13
  have g0HM := Lib.hid g0hM
  clear g0hM
  go_wp2_with fail
  refine (markSS_v w14 (1 + ((tot (dsX x0 xs1) : Nat) : Int)) g0b_14.out (HLb.out) (by omega) (by omega)).mono ?_
  rintro e w15 ⟨rfl, ⟨g0bY, ho, g0bhM⟩, hb⟩
  have z15 : w14.heap.size ≤ w15.heap.size := hb.size
  have B15 : Below w.heap.size w w15 := B14.trans (hb.below (by omega) (by omega))
  have p1_15 := Lib.hid (p1_14.out.step (w' := w15) (fun k h1 h2 => hb.block k (by omega) (by first | exact Or.inl (by omega) | exact Or.inr (by omega))))
  clear p1_14
  have w0_15 := Lib.hid (w0_14.out.step (w' := w15) (fun k h1 h2 => hb.block k (by omega) (by first | exact Or.inl (by omega) | exact Or.inr (by omega))))
  clear w0_14
  have w0b_15 := Lib.hid (w0b_14.out.step (w' := w15) (fun k h1 h2 => hb.block k (by omega) (by first | exact Or.inl (by omega) | exact Or.inr (by omega))))
  clear w0b_14
  have x1_15 := Lib.hid (x1_14.out.step (w' := w15) (fun k h1 h2 => hb.block k (by omega) (by first | exact Or.inl (by omega) | exact Or.inr (by omega))))
  clear x1_14
  have g0_15 := Lib.hid (g0_14.out.step (w' := w15) (fun k h1 h2 => hb.block k (by omega) (by first | exact Or.inl (by omega) | exact Or.inr (by omega))))
  clear g0_14
  have y1_15 := Lib.hid (y1_14.out.step (w' := w15) (fun k h1 h2 => hb.block k (by omega) (by first | exact Or.inl (by omega) | exact Or.inr (by omega))))
  clear y1_14
  have bw00_15 := (World.cell?_of_block (a := ⟨w2.heap.size, 0, none⟩) (hb.block (w2.heap.size) (by omega) (by first | exact Or.inl (by omega) | exact Or.inr (by omega)))).trans bw00_14
  clear bw00_14
  have bw01_15 := (World.cell?_of_block (a := ⟨w2.heap.size, 1, none⟩) (hb.block (w2.heap.size) (by omega) (by first | exact Or.inl (by omega) | exact Or.inr (by omega)))).trans bw01_14
  clear bw01_14
  have bg00_15 := (World.cell?_of_block (a := ⟨w5.heap.size, 0, none⟩) (hb.block (w5.heap.size) (by omega) (by first | exact Or.inl (by omega) | exact Or.inr (by omega)))).trans bg00_14
  clear bg00_14
  have bg01_15 := (World.cell?_of_block (a := ⟨w5.heap.size, 1, none⟩) (hb.block (w5.heap.size) (by omega) (by first | exact Or.inl (by omega) | exact Or.inr (by omega)))).trans bg01_14
  clear bg01_14
  clear hb
  have g0b_15 := Lib.hid ho
  clear ho g0b_14
  have g0bHM := Lib.hid g0bhM
  clear g0bhM
  go_wp2_with fail
  refine (heldD_v w15 (dsP x0 xs1) (1) g0_15.out.own.rd (g0HM.out) (HL.out) (by omega) (by omega)).mono ?_
  rintro e w16 ⟨rfl, hb⟩
  have z16 : w15.heap.size ≤ w16.heap.size := hb.size
  have B16 : Below w.heap.size w w16 := B15.trans (hb.mono (by omega))
  have p1_16 := Lib.hid (p1_15.out.step (w' := w16) (fun k h1 h2 => hb.block k (by omega)))
  clear p1_15
  have w0_16 := Lib.hid (w0_15.out.step (w' := w16) (fun k h1 h2 => hb.block k (by omega)))
  clear w0_15
  have w0b_16 := Lib.hid (w0b_15.out.step (w' := w16) (fun k h1 h2 => hb.block k (by omega)))
  clear w0b_15
  have x1_16 := Lib.hid (x1_15.out.step (w' := w16) (fun k h1 h2 => hb.block k (by omega)))
  clear x1_15
  have g0_16 := Lib.hid (g0_15.out.step (w' := w16) (fun k h1 h2 => hb.block k (by omega)))
  clear g0_15
  have g0b_16 := Lib.hid (g0b_15.out.step (w' := w16) (fun k h1 h2 => hb.block k (by omega)))
  clear g0b_15
  have y1_16 := Lib.hid (y1_15.out.step (w' := w16) (fun k h1 h2 => hb.block k (by omega)))
  clear y1_15
  have bw00_16 := (hb.cell (p := ⟨w2.heap.size, 0, none⟩) (by show w2.heap.size < _; omega)).trans bw00_15
  clear bw00_15
  have bw01_16 := (hb.cell (p := ⟨w2.heap.size, 1, none⟩) (by show w2.heap.size < _; omega)).trans bw01_15
  clear bw01_15
  have bg00_16 := (hb.cell (p := ⟨w5.heap.size, 0, none⟩) (by show w5.heap.size < _; omega)).trans bg00_15
  clear bg00_15
  have bg01_16 := (hb.cell (p := ⟨w5.heap.size, 1, none⟩) (by show w5.heap.size < _; omega)).trans bg01_15
  clear bg01_15
  clear hb
  go_wp2_with fail
  refine (heldSS_v w16 (1 + ((tot (dsX x0 xs1) : Nat) : Int)) g0b_16.out.own.rd (g0bHM.out) (HLb.out) (by omega) (by omega)).mono ?_
  rintro e w17 ⟨rfl, hb⟩
  have z17 : w16.heap.size ≤ w17.heap.size := hb.size
  have B17 : Below w.heap.size w w17 := B16.trans (hb.mono (by omega))
  have p1_17 := Lib.hid (p1_16.out.step (w' := w17) (fun k h1 h2 => hb.block k (by omega)))
  clear p1_16
  have w0_17 := Lib.hid (w0_16.out.step (w' := w17) (fun k h1 h2 => hb.block k (by omega)))
  clear w0_16
  have w0b_17 := Lib.hid (w0b_16.out.step (w' := w17) (fun k h1 h2 => hb.block k (by omega)))
  clear w0b_16
  have x1_17 := Lib.hid (x1_16.out.step (w' := w17) (fun k h1 h2 => hb.block k (by omega)))
  clear x1_16
  have g0_17 := Lib.hid (g0_16.out.step (w' := w17) (fun k h1 h2 => hb.block k (by omega)))
  clear g0_16
  have g0b_17 := Lib.hid (g0b_16.out.step (w' := w17) (fun k h1 h2 => hb.block k (by omega)))
  clear g0b_16
  have y1_17 := Lib.hid (y1_16.out.step (w' := w17) (fun k h1 h2 => hb.block k (by omega)))
  clear y1_16
  have bw00_17 := (hb.cell (p := ⟨w2.heap.size, 0, none⟩) (by show w2.heap.size < _; omega)).trans bw00_16
  clear bw00_16
  have bw01_17 := (hb.cell (p := ⟨w2.heap.size, 1, none⟩) (by show w2.heap.size < _; omega)).trans bw01_16
  clear bw01_16
  have bg00_17 := (hb.cell (p := ⟨w5.heap.size, 0, none⟩) (by show w5.heap.size < _; omega)).trans bg00_16
  clear bg00_16
  have bg01_17 := (hb.cell (p := ⟨w5.heap.size, 1, none⟩) (by show w5.heap.size < _; omega)).trans bg01_16
  clear bg01_16
  clear hb
  go_wp2_with fail
  refine (toL w17 A1 n1 c1 S1 xs1 ((HR1.out).below B17) (HN1.out) (by omega) HT1).mono ?_
  rintro e w18 ⟨⟨z1A, z1S, z1I, rfl, ho⟩, hb⟩
  have z18 : w17.heap.size ≤ w18.heap.size := hb.size
  have B18 : Below w.heap.size w w18 := B17.trans (hb.mono (by omega))
  have p1_18 := Lib.hid (p1_17.out.step (w' := w18) (fun k h1 h2 => hb.block k (by omega)))
  clear p1_17
  have w0_18 := Lib.hid (w0_17.out.step (w' := w18) (fun k h1 h2 => hb.block k (by omega)))
  clear w0_17
  have w0b_18 := Lib.hid (w0b_17.out.step (w' := w18) (fun k h1 h2 => hb.block k (by omega)))
  clear w0b_17
  have x1_18 := Lib.hid (x1_17.out.step (w' := w18) (fun k h1 h2 => hb.block k (by omega)))
  clear x1_17
  have g0_18 := Lib.hid (g0_17.out.step (w' := w18) (fun k h1 h2 => hb.block k (by omega)))
  clear g0_17
  have g0b_18 := Lib.hid (g0b_17.out.step (w' := w18) (fun k h1 h2 => hb.block k (by omega)))
  clear g0b_17
  have y1_18 := Lib.hid (y1_17.out.step (w' := w18) (fun k h1 h2 => hb.block k (by omega)))
  clear y1_17
  have bw00_18 := (hb.cell (p := ⟨w2.heap.size, 0, none⟩) (by show w2.heap.size < _; omega)).trans bw00_17
  clear bw00_17
  have bw01_18 := (hb.cell (p := ⟨w2.heap.size, 1, none⟩) (by show w2.heap.size < _; omega)).trans bw01_17
  clear bw01_17
  have bg00_18 := (hb.cell (p := ⟨w5.heap.size, 0, none⟩) (by show w5.heap.size < _; omega)).trans bg00_17
  clear bg00_17
  have bg01_18 := (hb.cell (p := ⟨w5.heap.size, 1, none⟩) (by show w5.heap.size < _; omega)).trans bg01_17
  clear bg01_17
  clear hb
  have z1_18 := Lib.hid ho
  clear ho
  go_wp2_with fail
  refine (implDesignOfSchedule_c w18 x0 hb0 z1A n1 n1 z1S xs1 z1_18.out.rd (HN1.out) hw1 (by omega)).mono ?_
  rintro e w19 ⟨⟨h0A, h0n, h0c, h0R, h0Ab, h0nb, h0cb, h0Rb, h0m, rfl, h0hn, h0hnb, h0m1, h0m2, ho, hob⟩, hb⟩
  obtain rfl : w0n = h0n := HL.out.symm.trans h0hn
  obtain rfl : w0nb = h0nb := HLb.out.symm.trans h0hnb
  clear h0hn h0hnb
  have z19 : w18.heap.size ≤ w19.heap.size := hb.size
  have B19 : Below w.heap.size w w19 := B18.trans (hb.mono (by omega))
  have p1_19 := Lib.hid (p1_18.out.step (w' := w19) (fun k h1 h2 => hb.block k (by omega)))
  clear p1_18
  have w0_19 := Lib.hid (w0_18.out.step (w' := w19) (fun k h1 h2 => hb.block k (by omega)))
  clear w0_18
  have w0b_19 := Lib.hid (w0b_18.out.step (w' := w19) (fun k h1 h2 => hb.block k (by omega)))
  clear w0b_18
  have x1_19 := Lib.hid (x1_18.out.step (w' := w19) (fun k h1 h2 => hb.block k (by omega)))
  clear x1_18
  have g0_19 := Lib.hid (g0_18.out.step (w' := w19) (fun k h1 h2 => hb.block k (by omega)))
  clear g0_18
  have g0b_19 := Lib.hid (g0b_18.out.step (w' := w19) (fun k h1 h2 => hb.block k (by omega)))
  clear g0b_18
  have y1_19 := Lib.hid (y1_18.out.step (w' := w19) (fun k h1 h2 => hb.block k (by omega)))
  clear y1_18
  have z1_19 := Lib.hid (z1_18.out.step (w' := w19) (fun k h1 h2 => hb.block k (by omega)))
  clear z1_18
  have bw00_19 := (hb.cell (p := ⟨w2.heap.size, 0, none⟩) (by show w2.heap.size < _; omega)).trans bw00_18
  clear bw00_18
  have bw01_19 := (hb.cell (p := ⟨w2.heap.size, 1, none⟩) (by show w2.heap.size < _; omega)).trans bw01_18
  clear bw01_18
  have bg00_19 := (hb.cell (p := ⟨w5.heap.size, 0, none⟩) (by show w5.heap.size < _; omega)).trans bg00_18
  clear bg00_18
  have bg01_19 := (hb.cell (p := ⟨w5.heap.size, 1, none⟩) (by show w5.heap.size < _; omega)).trans bg01_18
  clear bg01_18
  clear hb
  have h0_19 := Lib.hid ho
  clear ho
  have ho := hob
  clear hob
  have h0b_19 := Lib.hid ho
  clear ho
  have hb : Below w19.heap.size w19 (w19.alloc (.cells #[.int .i64 (dsP x0 xs1), .slice h0A w0n h0c] 26)) := below_boxed _ _
  have qh0 : w19.heap.size < (w19.alloc (.cells #[.int .i64 (dsP x0 xs1), .slice h0A w0n h0c] 26)).heap.size := by simp
  have bh00_20 : (w19.alloc (.cells #[.int .i64 (dsP x0 xs1), .slice h0A w0n h0c] 26)).cell? ⟨w19.heap.size, 0, none⟩ = some (.int .i64 (dsP x0 xs1)) := by simp [go_sem]
  have bh01_20 : (w19.alloc (.cells #[.int .i64 (dsP x0 xs1), .slice h0A w0n h0c] 26)).cell? ⟨w19.heap.size, 1, none⟩ = some (.slice h0A w0n h0c) := by simp [go_sem]
  have ew00 := (hb.cell (p := ⟨w2.heap.size, 0, none⟩) (by show w2.heap.size < _; omega)).trans bw00_19
  have ew01 := (hb.cell (p := ⟨w2.heap.size, 1, none⟩) (by show w2.heap.size < _; omega)).trans bw01_19
  have eg00 := (hb.cell (p := ⟨w5.heap.size, 0, none⟩) (by show w5.heap.size < _; omega)).trans bg00_19
  have eg01 := (hb.cell (p := ⟨w5.heap.size, 1, none⟩) (by show w5.heap.size < _; omega)).trans bg01_19
  go_wp2_with fail
  clear ew00 ew01
  clear eg00 eg01
  generalize (w19.alloc (.cells #[.int .i64 (dsP x0 xs1), .slice h0A w0n h0c] 26)) = w20 at *
  have z20 : w19.heap.size ≤ w20.heap.size := hb.size
  have B20 : Below w.heap.size w w20 := B19.trans (hb.mono (by omega))
  have p1_20 := Lib.hid (p1_19.out.step (w' := w20) (fun k h1 h2 => hb.block k (by omega)))
  clear p1_19
  have w0_20 := Lib.hid (w0_19.out.step (w' := w20) (fun k h1 h2 => hb.block k (by omega)))
  clear w0_19
  have w0b_20 := Lib.hid (w0b_19.out.step (w' := w20) (fun k h1 h2 => hb.block k (by omega)))
  clear w0b_19
  have x1_20 := Lib.hid (x1_19.out.step (w' := w20) (fun k h1 h2 => hb.block k (by omega)))
  clear x1_19
  have g0_20 := Lib.hid (g0_19.out.step (w' := w20) (fun k h1 h2 => hb.block k (by omega)))
  clear g0_19
  have g0b_20 := Lib.hid (g0b_19.out.step (w' := w20) (fun k h1 h2 => hb.block k (by omega)))
  clear g0b_19
  have y1_20 := Lib.hid (y1_19.out.step (w' := w20) (fun k h1 h2 => hb.block k (by omega)))
  clear y1_19
  have z1_20 := Lib.hid (z1_19.out.step (w' := w20) (fun k h1 h2 => hb.block k (by omega)))
  clear z1_19
  have h0_20 := Lib.hid (h0_19.out.step (w' := w20) (fun k h1 h2 => hb.block k (by omega)))
  clear h0_19
  have h0b_20 := Lib.hid (h0b_19.out.step (w' := w20) (fun k h1 h2 => hb.block k (by omega)))
  clear h0b_19
  have bw00_20 := (hb.cell (p := ⟨w2.heap.size, 0, none⟩) (by show w2.heap.size < _; omega)).trans bw00_19
  clear bw00_19
  have bw01_20 := (hb.cell (p := ⟨w2.heap.size, 1, none⟩) (by show w2.heap.size < _; omega)).trans bw01_19
  clear bw01_19
  have bg00_20 := (hb.cell (p := ⟨w5.heap.size, 0, none⟩) (by show w5.heap.size < _; omega)).trans bg00_19
  clear bg00_19
  have bg01_20 := (hb.cell (p := ⟨w5.heap.size, 1, none⟩) (by show w5.heap.size < _; omega)).trans bg01_19
  clear bg01_19
  clear hb
  go_wp2_with fail
  refine (eqD_v w20 (dsP x0 xs1) h0_20.out.own.rd w0_20.out.own.rd (HL.out) (by have := HL.out; omega) (fun k hk => by have := row_small HS k hk; omega)).mono ?_
  rintro e w21 ⟨rfl, hb⟩
  have z21 : w20.heap.size ≤ w21.heap.size := hb.size
  have B21 : Below w.heap.size w w21 := B20.trans (hb.mono (by omega))
  have p1_21 := Lib.hid (p1_20.out.step (w' := w21) (fun k h1 h2 => hb.block k (by omega)))
  clear p1_20
  have w0_21 := Lib.hid (w0_20.out.step (w' := w21) (fun k h1 h2 => hb.block k (by omega)))
  clear w0_20
  have w0b_21 := Lib.hid (w0b_20.out.step (w' := w21) (fun k h1 h2 => hb.block k (by omega)))
  clear w0b_20
  have x1_21 := Lib.hid (x1_20.out.step (w' := w21) (fun k h1 h2 => hb.block k (by omega)))
  clear x1_20
  have g0_21 := Lib.hid (g0_20.out.step (w' := w21) (fun k h1 h2 => hb.block k (by omega)))
  clear g0_20
  have g0b_21 := Lib.hid (g0b_20.out.step (w' := w21) (fun k h1 h2 => hb.block k (by omega)))
  clear g0b_20
  have y1_21 := Lib.hid (y1_20.out.step (w' := w21) (fun k h1 h2 => hb.block k (by omega)))
  clear y1_20
  have z1_21 := Lib.hid (z1_20.out.step (w' := w21) (fun k h1 h2 => hb.block k (by omega)))
  clear z1_20
  have h0_21 := Lib.hid (h0_20.out.step (w' := w21) (fun k h1 h2 => hb.block k (by omega)))
  clear h0_20
  have h0b_21 := Lib.hid (h0b_20.out.step (w' := w21) (fun k h1 h2 => hb.block k (by omega)))
  clear h0b_20
  have bw00_21 := (hb.cell (p := ⟨w2.heap.size, 0, none⟩) (by show w2.heap.size < _; omega)).trans bw00_20
  clear bw00_20
  have bw01_21 := (hb.cell (p := ⟨w2.heap.size, 1, none⟩) (by show w2.heap.size < _; omega)).trans bw01_20
  clear bw01_20
  have bg00_21 := (hb.cell (p := ⟨w5.heap.size, 0, none⟩) (by show w5.heap.size < _; omega)).trans bg00_20
  clear bg00_20
  have bg01_21 := (hb.cell (p := ⟨w5.heap.size, 1, none⟩) (by show w5.heap.size < _; omega)).trans bg01_20
  clear bg01_20
  have bh00_21 := (hb.cell (p := ⟨w19.heap.size, 0, none⟩) (by show w19.heap.size < _; omega)).trans bh00_20
  clear bh00_20
  have bh01_21 := (hb.cell (p := ⟨w19.heap.size, 1, none⟩) (by show w19.heap.size < _; omega)).trans bh01_20
  clear bh01_20
  clear hb
  go_wp2_with fail
  refine (eqSS_v w21 h0b_21.out.own.rd w0b_21.out.own.rd (HLb.out) (by have := HLb.out; omega) (fun k hk => by have := row_small HSb k hk; omega)).mono ?_
  rintro e w22 ⟨rfl, hb⟩
  have z22 : w21.heap.size ≤ w22.heap.size := hb.size
  have B22 : Below w.heap.size w w22 := B21.trans (hb.mono (by omega))
  have p1_22 := Lib.hid (p1_21.out.step (w' := w22) (fun k h1 h2 => hb.block k (by omega)))
  clear p1_21
  have w0_22 := Lib.hid (w0_21.out.step (w' := w22) (fun k h1 h2 => hb.block k (by omega)))
  clear w0_21
  have w0b_22 := Lib.hid (w0b_21.out.step (w' := w22) (fun k h1 h2 => hb.block k (by omega)))
  clear w0b_21
  have x1_22 := Lib.hid (x1_21.out.step (w' := w22) (fun k h1 h2 => hb.block k (by omega)))
  clear x1_21
  have g0_22 := Lib.hid (g0_21.out.step (w' := w22) (fun k h1 h2 => hb.block k (by omega)))
  clear g0_21
  have g0b_22 := Lib.hid (g0b_21.out.step (w' := w22) (fun k h1 h2 => hb.block k (by omega)))
  clear g0b_21
  have y1_22 := Lib.hid (y1_21.out.step (w' := w22) (fun k h1 h2 => hb.block k (by omega)))
  clear y1_21
  have z1_22 := Lib.hid (z1_21.out.step (w' := w22) (fun k h1 h2 => hb.block k (by omega)))
  clear z1_21
  have h0_22 := Lib.hid (h0_21.out.step (w' := w22) (fun k h1 h2 => hb.block k (by omega)))
  clear h0_21
  have h0b_22 := Lib.hid (h0b_21.out.step (w' := w22) (fun k h1 h2 => hb.block k (by omega)))
  clear h0b_21
  have bw00_22 := (hb.cell (p := ⟨w2.heap.size, 0, none⟩) (by show w2.heap.size < _; omega)).trans bw00_21
  clear bw00_21
  have bw01_22 := (hb.cell (p := ⟨w2.heap.size, 1, none⟩) (by show w2.heap.size < _; omega)).trans bw01_21
  clear bw01_21
  have bg00_22 := (hb.cell (p := ⟨w5.heap.size, 0, none⟩) (by show w5.heap.size < _; omega)).trans bg00_21
  clear bg00_21
  have bg01_22 := (hb.cell (p := ⟨w5.heap.size, 1, none⟩) (by show w5.heap.size < _; omega)).trans bg01_21
  clear bg01_21
  have bh00_22 := (hb.cell (p := ⟨w19.heap.size, 0, none⟩) (by show w19.heap.size < _; omega)).trans bh00_21
  clear bh00_21
  have bh01_22 := (hb.cell (p := ⟨w19.heap.size, 1, none⟩) (by show w19.heap.size < _; omega)).trans bh01_21
  clear bh01_21
  clear hb
  go_wp2_with fail
  refine (heldD_v w22 (dsP x0 xs1) (1) g0_22.out.own.rd (g0HM.out) (HL.out) (by omega) (by omega)).mono ?_
  rintro e w23 ⟨rfl, hb⟩
  have z23 : w22.heap.size ≤ w23.heap.size := hb.size
  have B23 : Below w.heap.size w w23 := B22.trans (hb.mono (by omega))
  have p1_23 := Lib.hid (p1_22.out.step (w' := w23) (fun k h1 h2 => hb.block k (by omega)))
  clear p1_22
  have w0_23 := Lib.hid (w0_22.out.step (w' := w23) (fun k h1 h2 => hb.block k (by omega)))
  clear w0_22
  have w0b_23 := Lib.hid (w0b_22.out.step (w' := w23) (fun k h1 h2 => hb.block k (by omega)))
  clear w0b_22
  have x1_23 := Lib.hid (x1_22.out.step (w' := w23) (fun k h1 h2 => hb.block k (by omega)))
  clear x1_22
  have g0_23 := Lib.hid (g0_22.out.step (w' := w23) (fun k h1 h2 => hb.block k (by omega)))
  clear g0_22
  have g0b_23 := Lib.hid (g0b_22.out.step (w' := w23) (fun k h1 h2 => hb.block k (by omega)))
  clear g0b_22
  have y1_23 := Lib.hid (y1_22.out.step (w' := w23) (fun k h1 h2 => hb.block k (by omega)))
  clear y1_22
  have z1_23 := Lib.hid (z1_22.out.step (w' := w23) (fun k h1 h2 => hb.block k (by omega)))
  clear z1_22
  have h0_23 := Lib.hid (h0_22.out.step (w' := w23) (fun k h1 h2 => hb.block k (by omega)))
  clear h0_22
  have h0b_23 := Lib.hid (h0b_22.out.step (w' := w23) (fun k h1 h2 => hb.block k (by omega)))
  clear h0b_22
  have bw00_23 := (hb.cell (p := ⟨w2.heap.size, 0, none⟩) (by show w2.heap.size < _; omega)).trans bw00_22
  clear bw00_22
  have bw01_23 := (hb.cell (p := ⟨w2.heap.size, 1, none⟩) (by show w2.heap.size < _; omega)).trans bw01_22
  clear bw01_22
  have bg00_23 := (hb.cell (p := ⟨w5.heap.size, 0, none⟩) (by show w5.heap.size < _; omega)).trans bg00_22
  clear bg00_22
  have bg01_23 := (hb.cell (p := ⟨w5.heap.size, 1, none⟩) (by show w5.heap.size < _; omega)).trans bg01_22
  clear bg01_22
  have bh00_23 := (hb.cell (p := ⟨w19.heap.size, 0, none⟩) (by show w19.heap.size < _; omega)).trans bh00_22
  clear bh00_22
  have bh01_23 := (hb.cell (p := ⟨w19.heap.size, 1, none⟩) (by show w19.heap.size < _; omega)).trans bh01_22
  clear bh01_22
  clear hb
  go_wp2_with fail
  refine (heldSS_v w23 (1 + ((tot (dsX x0 xs1) : Nat) : Int)) g0b_23.out.own.rd (g0bHM.out) (HLb.out) (by omega) (by omega)).mono ?_
  rintro e w24 ⟨rfl, hb⟩
  have z24 : w23.heap.size ≤ w24.heap.size := hb.size
  have B24 : Below w.heap.size w w24 := B23.trans (hb.mono (by omega))
  have p1_24 := Lib.hid (p1_23.out.step (w' := w24) (fun k h1 h2 => hb.block k (by omega)))
  clear p1_23
  have w0_24 := Lib.hid (w0_23.out.step (w' := w24) (fun k h1 h2 => hb.block k (by omega)))
  clear w0_23
  have w0b_24 := Lib.hid (w0b_23.out.step (w' := w24) (fun k h1 h2 => hb.block k (by omega)))
  clear w0b_23
  have x1_24 := Lib.hid (x1_23.out.step (w' := w24) (fun k h1 h2 => hb.block k (by omega)))
  clear x1_23
  have g0_24 := Lib.hid (g0_23.out.step (w' := w24) (fun k h1 h2 => hb.block k (by omega)))
  clear g0_23
  have g0b_24 := Lib.hid (g0b_23.out.step (w' := w24) (fun k h1 h2 => hb.block k (by omega)))
  clear g0b_23
  have y1_24 := Lib.hid (y1_23.out.step (w' := w24) (fun k h1 h2 => hb.block k (by omega)))
  clear y1_23
  have z1_24 := Lib.hid (z1_23.out.step (w' := w24) (fun k h1 h2 => hb.block k (by omega)))
  clear z1_23
  have h0_24 := Lib.hid (h0_23.out.step (w' := w24) (fun k h1 h2 => hb.block k (by omega)))
  clear h0_23
  have h0b_24 := Lib.hid (h0b_23.out.step (w' := w24) (fun k h1 h2 => hb.block k (by omega)))
  clear h0b_23
  have bw00_24 := (hb.cell (p := ⟨w2.heap.size, 0, none⟩) (by show w2.heap.size < _; omega)).trans bw00_23
  clear bw00_23
  have bw01_24 := (hb.cell (p := ⟨w2.heap.size, 1, none⟩) (by show w2.heap.size < _; omega)).trans bw01_23
  clear bw01_23
  have bg00_24 := (hb.cell (p := ⟨w5.heap.size, 0, none⟩) (by show w5.heap.size < _; omega)).trans bg00_23
  clear bg00_23
  have bg01_24 := (hb.cell (p := ⟨w5.heap.size, 1, none⟩) (by show w5.heap.size < _; omega)).trans bg01_23
  clear bg01_23
  have bh00_24 := (hb.cell (p := ⟨w19.heap.size, 0, none⟩) (by show w19.heap.size < _; omega)).trans bh00_23
  clear bh00_23
  have bh01_24 := (hb.cell (p := ⟨w19.heap.size, 1, none⟩) (by show w19.heap.size < _; omega)).trans bh01_23
  clear bh01_23
  clear hb
  go_wp2
  go_ret
  exact ⟨rfl, B24⟩

theorem walk (w : World) (x0 : Int) (hb0 : -9223372036854775808 ≤ x0 ∧ x0 ≤ 9223372036854775807) (A1 : Option Addr) (n1 c1 : Nat) (S1 : Spine3) (xs1 : List (List (List Int))) (hr1 : RdL w A1 c1 S1 xs1) (hn1 : xs1.length = n1) (hw1 : WfT xs1) :
    Calls Try.prog 3 #[.int .i64 x0, .slice A1 n1 c1] w fun e w' => e = .returned (.bool true) ∧ Below w.heap.size w w' := by
  rcases Int.lt_or_le 1048576 (((n1 : Int) + (wgt xs1 : Nat))) with h1 | h1
  · exact walkOut1 w x0 hb0 A1 n1 c1 S1 xs1 hr1 hn1 hw1  h1
  exact walkIn w x0 hb0 A1 n1 c1 S1 xs1 hr1 hn1 hw1 h1

set_option maxRecDepth 100000 in
theorem lifted (os : Os) (started : os.Started) (H : Type) (enc : TypeId × Value → H) :
    ReturnsInHanded {} Try.checked os 3 .any (Rows.fnExactDesignOfScheduleSpec.pre6 enc Try.prog Try.f3 Rows.fnExactDesignOfScheduleRow.domain false) (Rows.fnExactDesignOfScheduleSpec.post enc Try.prog Try.f3 false true false false) := by
  refine returnsInHanded_of_change (C := Try.checked) own started (by kernel_rfl) Try.func3
    (ChangeSpec.witness6 (enc := enc) (C := Try.checked) false ⟨#[], #[.int .i64 0, .slice none 0 0], []⟩ 8 (by kernel_rfl) (by kernel_rfl) (by kernel_rfl) (by kernel_rfl)) ?_
  intro W base args ds gs before hval0 hW hcnd _
  have hval : ∀ (j : Nat) t v, Try.f3.params[j]? = some t → args[j]? = some v → Value.okWide Try.prog W .any base t v := hval0
  have hW' := hW
  obtain ⟨p, q, hA0, hV, rfl, hfz, hnd⟩ := hW
  have hA : DataW.TrodAll enc Try.prog W 0 (fun _ => true) true Try.f3.params.toList args.toList ds p := hA0
  rw [Try.params3] at hA hval
  obtain ⟨v0, vs0, d0, ds0, p0, q0, hargs, rfl, rfl, h0, r0⟩ := trodAll_cons hA
  obtain ⟨v1, vs1, d1, ds1, p1, q1, rfl, rfl, rfl, h1, r1⟩ := trodAll_cons r0
  obtain ⟨rfl, rfl, rfl⟩ := trodAll_nil r1
  obtain rfl : args = #[v0, v1] := by cases args; simp_all
  obtain ⟨rfl, rfl⟩ := trodVars_none hV
  have k0 := h0
  have lt0 : ∀ x ∈ p0, x.block < W.heap.size := by obtain ⟨m, hm⟩ := k0; exact DataW.trod_lt m _ _ _ hm
  obtain ⟨x0, rfl, e0, _, hwf0⟩ := open_int Try.underlying2 (hval 0 2 v0 rfl rfl) h0
  have hb0 := wf_b64 hwf0
  obtain ⟨A1, n1, c1, rfl⟩ := okWide_slice Try.underlying22 (hval 1 22 v1 rfl rfl)
  have k1 := h1
  have lt1 : ∀ x ∈ p1, x.block < W.heap.size := by obtain ⟨m, hm⟩ := k1; exact DataW.trod_lt m _ _ _ hm
  obtain ⟨S1, xs1, hr1, hn1, hw1⟩ := open_L h1
  clear hA0 hval0
  refine (walk W x0 hb0 A1 n1 c1 S1 xs1 hr1 hn1 hw1).mono fun e W' ⟨he, bel⟩ => ?_
  subst he
  exact ⟨_, rfl, _, _, _, [], _, [], hW', trodAll_mk1 (shut_bool Try.underlying4 _), (trodAll_cons_mk (Below.trod laidOut (by kernel_rfl) (of_decide_eq_true (by kernel_rfl)) k0 bel lt0) (trodAll_cons_mk (Below.trod laidOut (by kernel_rfl) (of_decide_eq_true (by kernel_rfl)) k1 bel lt1) trodAll_mk0)), rfl, bel.frame _, fun h => by cases h⟩

theorem over : Rows.fnExactDesignOfScheduleRow.holds Try.pinned (OpenSpec.ofChange Rows.fnExactDesignOfScheduleSpec) :=
  OpenClaim.holds_of_wide 3 Try.f3 rfl rfl rfl rfl rfl rfl rfl ⟨rfl, rfl, rfl, rfl, rfl⟩ rfl rfl rfl rfl rfl (by kernel_rfl) Try.func3 (by kernel_rfl)
    (of_decide_eq_true (by kernel_rfl)) (by unfold Func.isWrapper; first | (rw [if_pos (by decide +kernel)]; kernel_rfl) | (rw [if_neg (by decide +kernel)]; exact ⟨rfl, rfl⟩))
    (fun os started H enc _ => lifted os started H enc)

/-- The statement. -/
theorem proved : Rows.FnExactDesignOfScheduleSaid := over
#print axioms proved
end Go.Proofs.Ytamklliaibfljaa.lawDesignOfSchedule
