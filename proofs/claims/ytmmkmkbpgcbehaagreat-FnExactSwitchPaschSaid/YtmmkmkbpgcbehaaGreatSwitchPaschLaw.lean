/-
  The program's SwitchPasch returns what the reference's returns: the statement FnExactSwitchPaschSaid. Conditions: none.
-/
import Derived.Test.YtmmkmkbpgcbehaaGreatRows
import Derived.Test.YtmmkmkbpgcbehaaGreatPswI
import Derived.Test.YtmmkmkbpgcbehaaGreatPswS
import Derived.Test.YtmmkmkbpgcbehaaGreatDFrame
import Derived.Test.YtmmkmkbpgcbehaaGreatGa
import Derived.Deep.RegionHeld3
namespace Go.Proofs.YtmmkmkbpgcbehaaGreat.lawSwitchPasch
open Go.ChangeShapes Go.WideShapes Go.ChangeAt Go.RowKit Go.Deep
set_option linter.unusedVariables false
set_option linter.unusedSimpArgs false

theorem own : ownKnob Tryz.prog.godebug = none := by kernel_rfl
theorem laidOut : laidOutB Tryz.prog = true := by kernel_rfl

set_option maxHeartbeats 400000 in
theorem walkOut1 (w : World) (x0 : Int) (hb0 : -9223372036854775808 ≤ x0 ∧ x0 ≤ 9223372036854775807) (A0 : Option Addr) (n0 c0 : Nat) (R0 : Spine) (xs0 : List (List Int)) (hr0 : RdM w A0 c0 R0 xs0) (hn0 : xs0.length = n0) (hw0 : WfM xs0) (A1 : Option Addr) (n1 c1 : Nat) (xs1 : List Int) (hr1 : RdI w A1 c1 xs1) (hn1 : xs1.length = n1) (hw1 : WfL xs1) (hz : 1048576 < (n1 : Int)) :
    Calls Tryz.prog 4 #[.agg #[.int .i64 x0, .slice A0 n0 c0], .slice A1 n1 c1] w fun e w' => e = .returned (.bool true) ∧ Below w.heap.size w w' := by
  have HR0 := Lib.hid hr0
  have HN0 := Lib.hid hn0
  have hm0 : n0 ≤ 9223372036854775807 := by have h1 := hr0.le; have h2 := hr0.cap; unfold maxLen at h2; omega
  clear hr0 hn0
  have HR1 := Lib.hid hr1
  have HN1 := Lib.hid hn1
  have hm1 : n1 ≤ 9223372036854775807 := by have h1 := hr1.le; have h2 := hr1.cap; unfold maxLen at h2; omega
  clear hr1 hn1
  go_enter Tryz.func4, Tryz.ntmps4
  go_wp2
  go_ret
  exact ⟨rfl, by first | exact Below.refl _ _ | exact below_boxed _ _ | exact (below_boxed _ _).alloc (by simp <;> omega) _⟩

set_option maxHeartbeats 400000 in
theorem walkOut0 (w : World) (x0 : Int) (hb0 : -9223372036854775808 ≤ x0 ∧ x0 ≤ 9223372036854775807) (A0 : Option Addr) (n0 c0 : Nat) (R0 : Spine) (xs0 : List (List Int)) (hr0 : RdM w A0 c0 R0 xs0) (hn0 : xs0.length = n0) (hw0 : WfM xs0) (A1 : Option Addr) (n1 c1 : Nat) (xs1 : List Int) (hr1 : RdI w A1 c1 xs1) (hn1 : xs1.length = n1) (hw1 : WfL xs1) (hz1 : (n1 : Int) ≤ 1048576) (hz : 1048576 < ((n0 : Int) + (tot xs0 : Nat))) :
    Calls Tryz.prog 4 #[.agg #[.int .i64 x0, .slice A0 n0 c0], .slice A1 n1 c1] w fun e w' => e = .returned (.bool true) ∧ Below w.heap.size w w' := by
  have HR0 := Lib.hid hr0
  have HN0 := Lib.hid hn0
  have hm0 : n0 ≤ 9223372036854775807 := by have h1 := hr0.le; have h2 := hr0.cap; unfold maxLen at h2; omega
  clear hr0 hn0
  have HR1 := Lib.hid hr1
  have HN1 := Lib.hid hn1
  have hm1 : n1 ≤ 9223372036854775807 := by have h1 := hr1.le; have h2 := hr1.cap; unfold maxLen at h2; omega
  clear hr1 hn1
  go_enter Tryz.func4, Tryz.ntmps4
  go_wp2_with fail
  have hb : Below w.heap.size w (w.alloc (.cells #[.int .i64 x0, .slice A0 n0 c0] 24)) := (below_boxed _ _)
  have qd0 : w.heap.size < (w.alloc (.cells #[.int .i64 x0, .slice A0 n0 c0] 24)).heap.size := by simp <;> omega
  have bd00_1 : (w.alloc (.cells #[.int .i64 x0, .slice A0 n0 c0] 24)).cell? ⟨w.heap.size, 0, none⟩ = some (.int .i64 x0) := by simp [go_sem]
  have bd01_1 : (w.alloc (.cells #[.int .i64 x0, .slice A0 n0 c0] 24)).cell? ⟨w.heap.size, 1, none⟩ = some (.slice A0 n0 c0) := by simp [go_sem]
  generalize (w.alloc (.cells #[.int .i64 x0, .slice A0 n0 c0] 24)) = w1 at *
  have z1 : w.heap.size ≤ w1.heap.size := hb.size
  have B1 : Below w.heap.size w w1 := (hb.mono (by omega))
  clear hb
  go_wp2_with fail
  refine (szD_out w1 x0 A0 n0 c0 R0 xs0 (1048576) ((HR0.out).below B1) (HN0.out) (by omega) (by omega) (by omega)).mono ?_
  rintro e w2 ⟨rfl, hb⟩
  have z2 : w1.heap.size ≤ w2.heap.size := hb.size
  have B2 : Below w.heap.size w w2 := B1.trans (hb.mono (by omega))
  have bd00_2 := (hb.cell (p := ⟨w.heap.size, 0, none⟩) (by show w.heap.size < _; omega)).trans bd00_1
  clear bd00_1
  have bd01_2 := (hb.cell (p := ⟨w.heap.size, 1, none⟩) (by show w.heap.size < _; omega)).trans bd01_1
  clear bd01_1
  clear hb
  go_wp2
  go_ret
  exact ⟨rfl, B2⟩

set_option maxHeartbeats 4000000 in
set_option maxRecDepth 100000 in
theorem walkIn (w : World) (x0 : Int) (hb0 : -9223372036854775808 ≤ x0 ∧ x0 ≤ 9223372036854775807) (A0 : Option Addr) (n0 c0 : Nat) (R0 : Spine) (xs0 : List (List Int)) (hr0 : RdM w A0 c0 R0 xs0) (hn0 : xs0.length = n0) (hw0 : WfM xs0) (A1 : Option Addr) (n1 c1 : Nat) (xs1 : List Int) (hr1 : RdI w A1 c1 xs1) (hn1 : xs1.length = n1) (hw1 : WfL xs1) (hz1 : (n1 : Int) ≤ 1048576) (hz0 : ((n0 : Int) + (tot xs0 : Nat)) ≤ 1048576) :
    Calls Tryz.prog 4 #[.agg #[.int .i64 x0, .slice A0 n0 c0], .slice A1 n1 c1] w fun e w' => e = .returned (.bool true) ∧ Below w.heap.size w w' := by
  have hsmall : (spX x0 xs0 xs1).length ≤ 1048576 := (SwitchPasch_small x0 xs0 xs1).1
  have HS : tot (spX x0 xs0 xs1) ≤ 1048576 := (SwitchPasch_small x0 xs0 xs1).2
  have HT0 : tot xs0 ≤ 1048576 := by omega
  have HR0 := Lib.hid hr0
  have HN0 := Lib.hid hn0
  have hm0 : n0 ≤ 9223372036854775807 := by have h1 := hr0.le; have h2 := hr0.cap; unfold maxLen at h2; omega
  clear hr0 hn0
  have HR1 := Lib.hid hr1
  have HN1 := Lib.hid hn1
  have hm1 : n1 ≤ 9223372036854775807 := by have h1 := hr1.le; have h2 := hr1.cap; unfold maxLen at h2; omega
  clear hr1 hn1
  go_enter Tryz.func4, Tryz.ntmps4
  go_wp2_with fail
  have hb : Below w.heap.size w (w.alloc (.cells #[.int .i64 x0, .slice A0 n0 c0] 24)) := (below_boxed _ _)
  have qd0 : w.heap.size < (w.alloc (.cells #[.int .i64 x0, .slice A0 n0 c0] 24)).heap.size := by simp <;> omega
  have bd00_1 : (w.alloc (.cells #[.int .i64 x0, .slice A0 n0 c0] 24)).cell? ⟨w.heap.size, 0, none⟩ = some (.int .i64 x0) := by simp [go_sem]
  have bd01_1 : (w.alloc (.cells #[.int .i64 x0, .slice A0 n0 c0] 24)).cell? ⟨w.heap.size, 1, none⟩ = some (.slice A0 n0 c0) := by simp [go_sem]
  generalize (w.alloc (.cells #[.int .i64 x0, .slice A0 n0 c0] 24)) = w1 at *
  have z1 : w.heap.size ≤ w1.heap.size := hb.size
  have B1 : Below w.heap.size w w1 := (hb.mono (by omega))
  clear hb
  go_wp2_with fail
  refine (szD_in w1 x0 A0 n0 c0 R0 xs0 (1048576) ((HR0.out).below B1) (HN0.out) (by omega) (by omega)).mono ?_
  rintro e w2 ⟨rfl, hb⟩
  have z2 : w1.heap.size ≤ w2.heap.size := hb.size
  have B2 : Below w.heap.size w w2 := B1.trans (hb.mono (by omega))
  have bd00_2 := (hb.cell (p := ⟨w.heap.size, 0, none⟩) (by show w.heap.size < _; omega)).trans bd00_1
  clear bd00_1
  have bd01_2 := (hb.cell (p := ⟨w.heap.size, 1, none⟩) (by show w.heap.size < _; omega)).trans bd01_1
  clear bd01_1
  clear hb
  go_wp2_with fail
  refine (toD w2 x0 A0 n0 c0 R0 xs0 ((HR0.out).below B2) (HN0.out) (by omega) (fun k hk => by have := row_small HT0 k (by rw [HN0.out]; exact hk); omega)).mono ?_
  rintro e w3 ⟨⟨p0A, p0R, rfl, ho⟩, hb⟩
  have z3 : w2.heap.size ≤ w3.heap.size := hb.size
  have B3 : Below w.heap.size w w3 := B2.trans (hb.mono (by omega))
  have bd00_3 := (hb.cell (p := ⟨w.heap.size, 0, none⟩) (by show w.heap.size < _; omega)).trans bd00_2
  clear bd00_2
  have bd01_3 := (hb.cell (p := ⟨w.heap.size, 1, none⟩) (by show w.heap.size < _; omega)).trans bd01_2
  clear bd01_2
  clear hb
  have p0_3 := Lib.hid ho.in_
  clear ho
  go_wp2_with fail
  refine (toS w3 A1 n1 c1 xs1 ((HR1.out).below B3) (HN1.out) (by omega)).mono ?_
  rintro e w4 ⟨⟨p1A, rfl, ho⟩, hb⟩
  have z4 : w3.heap.size ≤ w4.heap.size := hb.size
  have B4 : Below w.heap.size w w4 := B3.trans (hb.mono (by omega))
  have p0_4 := Lib.hid (p0_3.out.step (w' := w4) (fun k h1 h2 => hb.block k (by omega)))
  clear p0_3
  have bd00_4 := (hb.cell (p := ⟨w.heap.size, 0, none⟩) (by show w.heap.size < _; omega)).trans bd00_3
  clear bd00_3
  have bd01_4 := (hb.cell (p := ⟨w.heap.size, 1, none⟩) (by show w.heap.size < _; omega)).trans bd01_3
  clear bd01_3
  clear hb
  have p1_4 := Lib.hid ho.in_
  clear ho
  go_wp2_with fail
  refine (specSwitchPasch_c w4 x0 hb0 p0A n0 n0 p0R xs0 p0_4.out.own.rd (HN0.out) hw0 (by omega) p1A n1 n1 xs1 p1_4.out.own.rd (HN1.out) hw1 (by omega)).mono ?_
  rintro e w5 ⟨⟨w0A, w0n, w0c, w0R, rfl, w0hn, ho⟩, hb⟩
  have HL := Lib.hid w0hn
  have hsm : w0n ≤ 1048576 := by have := hsmall; have h2 := HL.out; omega
  clear w0hn
  have z5 : w4.heap.size ≤ w5.heap.size := hb.size
  have B5 : Below w.heap.size w w5 := B4.trans (hb.mono (by omega))
  have p0_5 := Lib.hid (p0_4.out.step (w' := w5) (fun k h1 h2 => hb.block k (by omega)))
  clear p0_4
  have p1_5 := Lib.hid (p1_4.out.step (w' := w5) (fun k h1 h2 => hb.block k (by omega)))
  clear p1_4
  have bd00_5 := (hb.cell (p := ⟨w.heap.size, 0, none⟩) (by show w.heap.size < _; omega)).trans bd00_4
  clear bd00_4
  have bd01_5 := (hb.cell (p := ⟨w.heap.size, 1, none⟩) (by show w.heap.size < _; omega)).trans bd01_4
  clear bd01_4
  clear hb
  have w0_5 := Lib.hid ho.in_
  clear ho
  have hb : Below w5.heap.size w5 (w5.alloc (.cells #[.int .i64 (spP x0 xs0 xs1), .slice w0A w0n w0c] 28)) := below_boxed _ _
  have qw0 : w5.heap.size < (w5.alloc (.cells #[.int .i64 (spP x0 xs0 xs1), .slice w0A w0n w0c] 28)).heap.size := by simp
  have bw00_6 : (w5.alloc (.cells #[.int .i64 (spP x0 xs0 xs1), .slice w0A w0n w0c] 28)).cell? ⟨w5.heap.size, 0, none⟩ = some (.int .i64 (spP x0 xs0 xs1)) := by simp [go_sem]
  have bw01_6 : (w5.alloc (.cells #[.int .i64 (spP x0 xs0 xs1), .slice w0A w0n w0c] 28)).cell? ⟨w5.heap.size, 1, none⟩ = some (.slice w0A w0n w0c) := by simp [go_sem]
  have ed00 := (hb.cell (p := ⟨w.heap.size, 0, none⟩) (by show w.heap.size < _; omega)).trans bd00_5
  have ed01 := (hb.cell (p := ⟨w.heap.size, 1, none⟩) (by show w.heap.size < _; omega)).trans bd01_5
  go_wp2_with fail
  clear ed00 ed01
  generalize (w5.alloc (.cells #[.int .i64 (spP x0 xs0 xs1), .slice w0A w0n w0c] 28)) = w6 at *
  have z6 : w5.heap.size ≤ w6.heap.size := hb.size
  have B6 : Below w.heap.size w w6 := B5.trans (hb.mono (by omega))
  have p0_6 := Lib.hid (p0_5.out.step (w' := w6) (fun k h1 h2 => hb.block k (by omega)))
  clear p0_5
  have p1_6 := Lib.hid (p1_5.out.step (w' := w6) (fun k h1 h2 => hb.block k (by omega)))
  clear p1_5
  have w0_6 := Lib.hid (w0_5.out.step (w' := w6) (fun k h1 h2 => hb.block k (by omega)))
  clear w0_5
  have bd00_6 := (hb.cell (p := ⟨w.heap.size, 0, none⟩) (by show w.heap.size < _; omega)).trans bd00_5
  clear bd00_5
  have bd01_6 := (hb.cell (p := ⟨w.heap.size, 1, none⟩) (by show w.heap.size < _; omega)).trans bd01_5
  clear bd01_5
  clear hb
  go_wp2_with fail
  refine (toD w6 x0 A0 n0 c0 R0 xs0 ((HR0.out).below B6) (HN0.out) (by omega) (fun k hk => by have := row_small HT0 k (by rw [HN0.out]; exact hk); omega)).mono ?_
  rintro e w7 ⟨⟨x0A, x0R, rfl, ho⟩, hb⟩
  have z7 : w6.heap.size ≤ w7.heap.size := hb.size
  have B7 : Below w.heap.size w w7 := B6.trans (hb.mono (by omega))
  have p0_7 := Lib.hid (p0_6.out.step (w' := w7) (fun k h1 h2 => hb.block k (by omega)))
  clear p0_6
  have p1_7 := Lib.hid (p1_6.out.step (w' := w7) (fun k h1 h2 => hb.block k (by omega)))
  clear p1_6
  have w0_7 := Lib.hid (w0_6.out.step (w' := w7) (fun k h1 h2 => hb.block k (by omega)))
  clear w0_6
  have bd00_7 := (hb.cell (p := ⟨w.heap.size, 0, none⟩) (by show w.heap.size < _; omega)).trans bd00_6
  clear bd00_6
  have bd01_7 := (hb.cell (p := ⟨w.heap.size, 1, none⟩) (by show w.heap.size < _; omega)).trans bd01_6
  clear bd01_6
  have bw00_7 := (hb.cell (p := ⟨w5.heap.size, 0, none⟩) (by show w5.heap.size < _; omega)).trans bw00_6
  clear bw00_6
  have bw01_7 := (hb.cell (p := ⟨w5.heap.size, 1, none⟩) (by show w5.heap.size < _; omega)).trans bw01_6
  clear bw01_6
  clear hb
  have x0_7 := Lib.hid ho.in_
  clear ho
  have hb : Below w7.heap.size w7 (w7.alloc (.cells #[.int .i64 x0, .slice x0A n0 n0] 28)) := below_boxed _ _
  have qx0 : w7.heap.size < (w7.alloc (.cells #[.int .i64 x0, .slice x0A n0 n0] 28)).heap.size := by simp
  have bx00_8 : (w7.alloc (.cells #[.int .i64 x0, .slice x0A n0 n0] 28)).cell? ⟨w7.heap.size, 0, none⟩ = some (.int .i64 x0) := by simp [go_sem]
  have bx01_8 : (w7.alloc (.cells #[.int .i64 x0, .slice x0A n0 n0] 28)).cell? ⟨w7.heap.size, 1, none⟩ = some (.slice x0A n0 n0) := by simp [go_sem]
  have ed00 := (hb.cell (p := ⟨w.heap.size, 0, none⟩) (by show w.heap.size < _; omega)).trans bd00_7
  have ed01 := (hb.cell (p := ⟨w.heap.size, 1, none⟩) (by show w.heap.size < _; omega)).trans bd01_7
  have ew00 := (hb.cell (p := ⟨w5.heap.size, 0, none⟩) (by show w5.heap.size < _; omega)).trans bw00_7
  have ew01 := (hb.cell (p := ⟨w5.heap.size, 1, none⟩) (by show w5.heap.size < _; omega)).trans bw01_7
  go_wp2_with fail
  clear ed00 ed01
  clear ew00 ew01
  generalize (w7.alloc (.cells #[.int .i64 x0, .slice x0A n0 n0] 28)) = w8 at *
  have z8 : w7.heap.size ≤ w8.heap.size := hb.size
  have B8 : Below w.heap.size w w8 := B7.trans (hb.mono (by omega))
  have p0_8 := Lib.hid (p0_7.out.step (w' := w8) (fun k h1 h2 => hb.block k (by omega)))
  clear p0_7
  have p1_8 := Lib.hid (p1_7.out.step (w' := w8) (fun k h1 h2 => hb.block k (by omega)))
  clear p1_7
  have w0_8 := Lib.hid (w0_7.out.step (w' := w8) (fun k h1 h2 => hb.block k (by omega)))
  clear w0_7
  have x0_8 := Lib.hid (x0_7.out.step (w' := w8) (fun k h1 h2 => hb.block k (by omega)))
  clear x0_7
  have bd00_8 := (hb.cell (p := ⟨w.heap.size, 0, none⟩) (by show w.heap.size < _; omega)).trans bd00_7
  clear bd00_7
  have bd01_8 := (hb.cell (p := ⟨w.heap.size, 1, none⟩) (by show w.heap.size < _; omega)).trans bd01_7
  clear bd01_7
  have bw00_8 := (hb.cell (p := ⟨w5.heap.size, 0, none⟩) (by show w5.heap.size < _; omega)).trans bw00_7
  clear bw00_7
  have bw01_8 := (hb.cell (p := ⟨w5.heap.size, 1, none⟩) (by show w5.heap.size < _; omega)).trans bw01_7
  clear bw01_7
  clear hb
  go_wp2_with fail
  refine (toS w8 A1 n1 c1 xs1 ((HR1.out).below B8) (HN1.out) (by omega)).mono ?_
  rintro e w9 ⟨⟨x1A, rfl, ho⟩, hb⟩
  have z9 : w8.heap.size ≤ w9.heap.size := hb.size
  have B9 : Below w.heap.size w w9 := B8.trans (hb.mono (by omega))
  have p0_9 := Lib.hid (p0_8.out.step (w' := w9) (fun k h1 h2 => hb.block k (by omega)))
  clear p0_8
  have p1_9 := Lib.hid (p1_8.out.step (w' := w9) (fun k h1 h2 => hb.block k (by omega)))
  clear p1_8
  have w0_9 := Lib.hid (w0_8.out.step (w' := w9) (fun k h1 h2 => hb.block k (by omega)))
  clear w0_8
  have x0_9 := Lib.hid (x0_8.out.step (w' := w9) (fun k h1 h2 => hb.block k (by omega)))
  clear x0_8
  have bd00_9 := (hb.cell (p := ⟨w.heap.size, 0, none⟩) (by show w.heap.size < _; omega)).trans bd00_8
  clear bd00_8
  have bd01_9 := (hb.cell (p := ⟨w.heap.size, 1, none⟩) (by show w.heap.size < _; omega)).trans bd01_8
  clear bd01_8
  have bw00_9 := (hb.cell (p := ⟨w5.heap.size, 0, none⟩) (by show w5.heap.size < _; omega)).trans bw00_8
  clear bw00_8
  have bw01_9 := (hb.cell (p := ⟨w5.heap.size, 1, none⟩) (by show w5.heap.size < _; omega)).trans bw01_8
  clear bw01_8
  have bx00_9 := (hb.cell (p := ⟨w7.heap.size, 0, none⟩) (by show w7.heap.size < _; omega)).trans bx00_8
  clear bx00_8
  have bx01_9 := (hb.cell (p := ⟨w7.heap.size, 1, none⟩) (by show w7.heap.size < _; omega)).trans bx01_8
  clear bx01_8
  clear hb
  have x1_9 := Lib.hid ho.in_
  clear ho
  go_wp2_with fail
  refine (implSwitchPasch_c w9 x0 hb0 x0A n0 n0 x0R xs0 x0_9.out.own.rd (HN0.out) hw0 (by omega) x1A n1 n1 xs1 x1_9.out.own.rd (HN1.out) hw1 (by omega)).mono ?_
  rintro e w10 ⟨⟨g0A, g0n, g0c, g0R, rfl, g0hn, ho⟩, hb⟩
  obtain rfl : w0n = g0n := HL.out.symm.trans g0hn
  clear g0hn
  have z10 : w9.heap.size ≤ w10.heap.size := hb.size
  have B10 : Below w.heap.size w w10 := B9.trans (hb.mono (by omega))
  have p0_10 := Lib.hid (p0_9.out.step (w' := w10) (fun k h1 h2 => hb.block k (by omega)))
  clear p0_9
  have p1_10 := Lib.hid (p1_9.out.step (w' := w10) (fun k h1 h2 => hb.block k (by omega)))
  clear p1_9
  have w0_10 := Lib.hid (w0_9.out.step (w' := w10) (fun k h1 h2 => hb.block k (by omega)))
  clear w0_9
  have x0_10 := Lib.hid (x0_9.out.step (w' := w10) (fun k h1 h2 => hb.block k (by omega)))
  clear x0_9
  have x1_10 := Lib.hid (x1_9.out.step (w' := w10) (fun k h1 h2 => hb.block k (by omega)))
  clear x1_9
  have bd00_10 := (hb.cell (p := ⟨w.heap.size, 0, none⟩) (by show w.heap.size < _; omega)).trans bd00_9
  clear bd00_9
  have bd01_10 := (hb.cell (p := ⟨w.heap.size, 1, none⟩) (by show w.heap.size < _; omega)).trans bd01_9
  clear bd01_9
  have bw00_10 := (hb.cell (p := ⟨w5.heap.size, 0, none⟩) (by show w5.heap.size < _; omega)).trans bw00_9
  clear bw00_9
  have bw01_10 := (hb.cell (p := ⟨w5.heap.size, 1, none⟩) (by show w5.heap.size < _; omega)).trans bw01_9
  clear bw01_9
  have bx00_10 := (hb.cell (p := ⟨w7.heap.size, 0, none⟩) (by show w7.heap.size < _; omega)).trans bx00_9
  clear bx00_9
  have bx01_10 := (hb.cell (p := ⟨w7.heap.size, 1, none⟩) (by show w7.heap.size < _; omega)).trans bx01_9
  clear bx01_9
  clear hb
  have g0_10 := Lib.hid ho.in_
  clear ho
  have hb : Below w10.heap.size w10 (w10.alloc (.cells #[.int .i64 (spP x0 xs0 xs1), .slice g0A w0n g0c] 28)) := below_boxed _ _
  have qg0 : w10.heap.size < (w10.alloc (.cells #[.int .i64 (spP x0 xs0 xs1), .slice g0A w0n g0c] 28)).heap.size := by simp
  have bg00_11 : (w10.alloc (.cells #[.int .i64 (spP x0 xs0 xs1), .slice g0A w0n g0c] 28)).cell? ⟨w10.heap.size, 0, none⟩ = some (.int .i64 (spP x0 xs0 xs1)) := by simp [go_sem]
  have bg01_11 : (w10.alloc (.cells #[.int .i64 (spP x0 xs0 xs1), .slice g0A w0n g0c] 28)).cell? ⟨w10.heap.size, 1, none⟩ = some (.slice g0A w0n g0c) := by simp [go_sem]
  have ed00 := (hb.cell (p := ⟨w.heap.size, 0, none⟩) (by show w.heap.size < _; omega)).trans bd00_10
  have ed01 := (hb.cell (p := ⟨w.heap.size, 1, none⟩) (by show w.heap.size < _; omega)).trans bd01_10
  have ew00 := (hb.cell (p := ⟨w5.heap.size, 0, none⟩) (by show w5.heap.size < _; omega)).trans bw00_10
  have ew01 := (hb.cell (p := ⟨w5.heap.size, 1, none⟩) (by show w5.heap.size < _; omega)).trans bw01_10
  have ex00 := (hb.cell (p := ⟨w7.heap.size, 0, none⟩) (by show w7.heap.size < _; omega)).trans bx00_10
  have ex01 := (hb.cell (p := ⟨w7.heap.size, 1, none⟩) (by show w7.heap.size < _; omega)).trans bx01_10
  go_wp2_with fail
  clear ed00 ed01
  clear ew00 ew01
  clear ex00 ex01
  generalize (w10.alloc (.cells #[.int .i64 (spP x0 xs0 xs1), .slice g0A w0n g0c] 28)) = w11 at *
  have z11 : w10.heap.size ≤ w11.heap.size := hb.size
  have B11 : Below w.heap.size w w11 := B10.trans (hb.mono (by omega))
  have p0_11 := Lib.hid (p0_10.out.step (w' := w11) (fun k h1 h2 => hb.block k (by omega)))
  clear p0_10
  have p1_11 := Lib.hid (p1_10.out.step (w' := w11) (fun k h1 h2 => hb.block k (by omega)))
  clear p1_10
  have w0_11 := Lib.hid (w0_10.out.step (w' := w11) (fun k h1 h2 => hb.block k (by omega)))
  clear w0_10
  have x0_11 := Lib.hid (x0_10.out.step (w' := w11) (fun k h1 h2 => hb.block k (by omega)))
  clear x0_10
  have x1_11 := Lib.hid (x1_10.out.step (w' := w11) (fun k h1 h2 => hb.block k (by omega)))
  clear x1_10
  have g0_11 := Lib.hid (g0_10.out.step (w' := w11) (fun k h1 h2 => hb.block k (by omega)))
  clear g0_10
  have bd00_11 := (hb.cell (p := ⟨w.heap.size, 0, none⟩) (by show w.heap.size < _; omega)).trans bd00_10
  clear bd00_10
  have bd01_11 := (hb.cell (p := ⟨w.heap.size, 1, none⟩) (by show w.heap.size < _; omega)).trans bd01_10
  clear bd01_10
  have bw00_11 := (hb.cell (p := ⟨w5.heap.size, 0, none⟩) (by show w5.heap.size < _; omega)).trans bw00_10
  clear bw00_10
  have bw01_11 := (hb.cell (p := ⟨w5.heap.size, 1, none⟩) (by show w5.heap.size < _; omega)).trans bw01_10
  clear bw01_10
  have bx00_11 := (hb.cell (p := ⟨w7.heap.size, 0, none⟩) (by show w7.heap.size < _; omega)).trans bx00_10
  clear bx00_10
  have bx01_11 := (hb.cell (p := ⟨w7.heap.size, 1, none⟩) (by show w7.heap.size < _; omega)).trans bx01_10
  clear bx01_10
  clear hb
  go_wp2_with fail
  refine (eqD_v w11 (spP x0 xs0 xs1) g0_11.out.own.rd w0_11.out.own.rd (HL.out) (by have := HL.out; omega) (fun k hk => by have := row_small HS k hk; omega)).mono ?_
  rintro e w12 ⟨rfl, hb⟩
  have z12 : w11.heap.size ≤ w12.heap.size := hb.size
  have B12 : Below w.heap.size w w12 := B11.trans (hb.mono (by omega))
  have p0_12 := Lib.hid (p0_11.out.step (w' := w12) (fun k h1 h2 => hb.block k (by omega)))
  clear p0_11
  have p1_12 := Lib.hid (p1_11.out.step (w' := w12) (fun k h1 h2 => hb.block k (by omega)))
  clear p1_11
  have w0_12 := Lib.hid (w0_11.out.step (w' := w12) (fun k h1 h2 => hb.block k (by omega)))
  clear w0_11
  have x0_12 := Lib.hid (x0_11.out.step (w' := w12) (fun k h1 h2 => hb.block k (by omega)))
  clear x0_11
  have x1_12 := Lib.hid (x1_11.out.step (w' := w12) (fun k h1 h2 => hb.block k (by omega)))
  clear x1_11
  have g0_12 := Lib.hid (g0_11.out.step (w' := w12) (fun k h1 h2 => hb.block k (by omega)))
  clear g0_11
  have bd00_12 := (hb.cell (p := ⟨w.heap.size, 0, none⟩) (by show w.heap.size < _; omega)).trans bd00_11
  clear bd00_11
  have bd01_12 := (hb.cell (p := ⟨w.heap.size, 1, none⟩) (by show w.heap.size < _; omega)).trans bd01_11
  clear bd01_11
  have bw00_12 := (hb.cell (p := ⟨w5.heap.size, 0, none⟩) (by show w5.heap.size < _; omega)).trans bw00_11
  clear bw00_11
  have bw01_12 := (hb.cell (p := ⟨w5.heap.size, 1, none⟩) (by show w5.heap.size < _; omega)).trans bw01_11
  clear bw01_11
  have bx00_12 := (hb.cell (p := ⟨w7.heap.size, 0, none⟩) (by show w7.heap.size < _; omega)).trans bx00_11
  clear bx00_11
  have bx01_12 := (hb.cell (p := ⟨w7.heap.size, 1, none⟩) (by show w7.heap.size < _; omega)).trans bx01_11
  clear bx01_11
  have bg00_12 := (hb.cell (p := ⟨w10.heap.size, 0, none⟩) (by show w10.heap.size < _; omega)).trans bg00_11
  clear bg00_11
  have bg01_12 := (hb.cell (p := ⟨w10.heap.size, 1, none⟩) (by show w10.heap.size < _; omega)).trans bg01_11
  clear bg01_11
  clear hb
  go_wp2_with fail
  have HE := Lib.hid (fun (w' : World) (hb : Below w12.heap.size w12 w') => toD w' x0 A0 n0 c0 R0 xs0 ((HR0.out).below (B12.trans (hb.mono (by omega)))) (HN0.out) (by omega) (fun k hk => by have := row_small HT0 k (by rw [HN0.out]; exact hk); omega))
  have ck0 := Lib.hid (fun (w' : World) (hb : Below w12.heap.size w12 w') => (hb.cell (p := ⟨w.heap.size, 0, none⟩) (by show w.heap.size < w12.heap.size; omega)).trans bd00_12)
  have ck1 := Lib.hid (fun (w' : World) (hb : Below w12.heap.size w12 w') => (hb.cell (p := ⟨w.heap.size, 1, none⟩) (by show w.heap.size < w12.heap.size; omega)).trans bd01_12)
  have ck2 := Lib.hid (fun (w' : World) (hb : Below w12.heap.size w12 w') => (hb.cell (p := ⟨w7.heap.size, 0, none⟩) (by show w7.heap.size < w12.heap.size; omega)).trans bx00_12)
  have ck3 := Lib.hid (fun (w' : World) (hb : Below w12.heap.size w12 w') => (hb.cell (p := ⟨w7.heap.size, 1, none⟩) (by show w7.heap.size < w12.heap.size; omega)).trans bx01_12)
  have hS := Lib.hid (Below.refl w12.heap.size w12)
  go_region_held3 (fun w' => Below w12.heap.size w12 w' ∧ w'.cell? ⟨w.heap.size, 0, none⟩ = some (.int .i64 x0) ∧ w'.cell? ⟨w.heap.size, 1, none⟩ = some (.slice A0 n0 c0) ∧ w'.cell? ⟨w7.heap.size, 0, none⟩ = some (.int .i64 x0) ∧ w'.cell? ⟨w7.heap.size, 1, none⟩ = some (.slice x0A n0 n0)) (first | exact ⟨hS.out, ck0.out _ hS.out, ck1.out _ hS.out, ck2.out _ hS.out, ck3.out _ hS.out⟩ | exact ⟨below_drewN hS.out 1, ck0.out _ (below_drewN hS.out 1), ck1.out _ (below_drewN hS.out 1), ck2.out _ (below_drewN hS.out 1), ck3.out _ (below_drewN hS.out 1)⟩)
    (first
      | (go_at_call 7; refine (HE.out _ (below_drewN hS.out 1)).mono ?_; rintro e wy ⟨⟨yA, yR, rfl, ho⟩, hb⟩; have hy := Lib.hid ho; have hS := Lib.hid ((below_drewN hS.out 1).trans (hb.mono hS.out.size)); have h1y := Lib.hid hb; clear ho hb)
      | (go_at_call 10; refine (eqD_v _ x0 (x0_12.out.step (w' := wy) (fun k h1 h2 => hS.out.block k (by omega))).own.rd hy.out.rd (HN0.out) (by have := HN0.out; omega) (fun k hk => by have := row_small HT0 k hk; omega)).mono ?_; rintro e w13 ⟨rfl, hb⟩; have hS1 := hS; have hS := Lib.hid (hS1.out.trans (hb.mono hS1.out.size)); clear hb))
  have hb := hS.out
  clear hS HE hy h1y ck0 ck1 ck2 ck3
  have z13 : w12.heap.size ≤ w13.heap.size := hb.size
  have B13 : Below w.heap.size w w13 := B12.trans (hb.mono (by omega))
  have p0_13 := Lib.hid (p0_12.out.step (w' := w13) (fun k h1 h2 => hb.block k (by omega)))
  clear p0_12
  have p1_13 := Lib.hid (p1_12.out.step (w' := w13) (fun k h1 h2 => hb.block k (by omega)))
  clear p1_12
  have w0_13 := Lib.hid (w0_12.out.step (w' := w13) (fun k h1 h2 => hb.block k (by omega)))
  clear w0_12
  have x0_13 := Lib.hid (x0_12.out.step (w' := w13) (fun k h1 h2 => hb.block k (by omega)))
  clear x0_12
  have x1_13 := Lib.hid (x1_12.out.step (w' := w13) (fun k h1 h2 => hb.block k (by omega)))
  clear x1_12
  have g0_13 := Lib.hid (g0_12.out.step (w' := w13) (fun k h1 h2 => hb.block k (by omega)))
  clear g0_12
  have bd00_13 := (hb.cell (p := ⟨w.heap.size, 0, none⟩) (by show w.heap.size < _; omega)).trans bd00_12
  clear bd00_12
  have bd01_13 := (hb.cell (p := ⟨w.heap.size, 1, none⟩) (by show w.heap.size < _; omega)).trans bd01_12
  clear bd01_12
  have bw00_13 := (hb.cell (p := ⟨w5.heap.size, 0, none⟩) (by show w5.heap.size < _; omega)).trans bw00_12
  clear bw00_12
  have bw01_13 := (hb.cell (p := ⟨w5.heap.size, 1, none⟩) (by show w5.heap.size < _; omega)).trans bw01_12
  clear bw01_12
  have bx00_13 := (hb.cell (p := ⟨w7.heap.size, 0, none⟩) (by show w7.heap.size < _; omega)).trans bx00_12
  clear bx00_12
  have bx01_13 := (hb.cell (p := ⟨w7.heap.size, 1, none⟩) (by show w7.heap.size < _; omega)).trans bx01_12
  clear bx01_12
  have bg00_13 := (hb.cell (p := ⟨w10.heap.size, 0, none⟩) (by show w10.heap.size < _; omega)).trans bg00_12
  clear bg00_12
  have bg01_13 := (hb.cell (p := ⟨w10.heap.size, 1, none⟩) (by show w10.heap.size < _; omega)).trans bg01_12
  clear bg01_12
  clear hb
  go_wp2_with fail
  refine (toS w13 A1 n1 c1 xs1 ((HR1.out).below B13) (HN1.out) (by omega)).mono ?_
  rintro e w14 ⟨⟨y1A, rfl, ho⟩, hb⟩
  have z14 : w13.heap.size ≤ w14.heap.size := hb.size
  have B14 : Below w.heap.size w w14 := B13.trans (hb.mono (by omega))
  have p0_14 := Lib.hid (p0_13.out.step (w' := w14) (fun k h1 h2 => hb.block k (by omega)))
  clear p0_13
  have p1_14 := Lib.hid (p1_13.out.step (w' := w14) (fun k h1 h2 => hb.block k (by omega)))
  clear p1_13
  have w0_14 := Lib.hid (w0_13.out.step (w' := w14) (fun k h1 h2 => hb.block k (by omega)))
  clear w0_13
  have x0_14 := Lib.hid (x0_13.out.step (w' := w14) (fun k h1 h2 => hb.block k (by omega)))
  clear x0_13
  have x1_14 := Lib.hid (x1_13.out.step (w' := w14) (fun k h1 h2 => hb.block k (by omega)))
  clear x1_13
  have g0_14 := Lib.hid (g0_13.out.step (w' := w14) (fun k h1 h2 => hb.block k (by omega)))
  clear g0_13
  have bd00_14 := (hb.cell (p := ⟨w.heap.size, 0, none⟩) (by show w.heap.size < _; omega)).trans bd00_13
  clear bd00_13
  have bd01_14 := (hb.cell (p := ⟨w.heap.size, 1, none⟩) (by show w.heap.size < _; omega)).trans bd01_13
  clear bd01_13
  have bw00_14 := (hb.cell (p := ⟨w5.heap.size, 0, none⟩) (by show w5.heap.size < _; omega)).trans bw00_13
  clear bw00_13
  have bw01_14 := (hb.cell (p := ⟨w5.heap.size, 1, none⟩) (by show w5.heap.size < _; omega)).trans bw01_13
  clear bw01_13
  have bx00_14 := (hb.cell (p := ⟨w7.heap.size, 0, none⟩) (by show w7.heap.size < _; omega)).trans bx00_13
  clear bx00_13
  have bx01_14 := (hb.cell (p := ⟨w7.heap.size, 1, none⟩) (by show w7.heap.size < _; omega)).trans bx01_13
  clear bx01_13
  have bg00_14 := (hb.cell (p := ⟨w10.heap.size, 0, none⟩) (by show w10.heap.size < _; omega)).trans bg00_13
  clear bg00_13
  have bg01_14 := (hb.cell (p := ⟨w10.heap.size, 1, none⟩) (by show w10.heap.size < _; omega)).trans bg01_13
  clear bg01_13
  clear hb
  have y1_14 := Lib.hid ho.in_
  clear ho
  go_wp2_with fail
  refine (eqS_v w14 x1_14.out.own.rd y1_14.out.own.rd (HN1.out) (by have := HN1.out; omega)).mono ?_
  rintro e w15 ⟨rfl, hb⟩
  have z15 : w14.heap.size ≤ w15.heap.size := hb.size
  have B15 : Below w.heap.size w w15 := B14.trans (hb.mono (by omega))
  have p0_15 := Lib.hid (p0_14.out.step (w' := w15) (fun k h1 h2 => hb.block k (by omega)))
  clear p0_14
  have p1_15 := Lib.hid (p1_14.out.step (w' := w15) (fun k h1 h2 => hb.block k (by omega)))
  clear p1_14
  have w0_15 := Lib.hid (w0_14.out.step (w' := w15) (fun k h1 h2 => hb.block k (by omega)))
  clear w0_14
  have x0_15 := Lib.hid (x0_14.out.step (w' := w15) (fun k h1 h2 => hb.block k (by omega)))
  clear x0_14
  have x1_15 := Lib.hid (x1_14.out.step (w' := w15) (fun k h1 h2 => hb.block k (by omega)))
  clear x1_14
  have g0_15 := Lib.hid (g0_14.out.step (w' := w15) (fun k h1 h2 => hb.block k (by omega)))
  clear g0_14
  have y1_15 := Lib.hid (y1_14.out.step (w' := w15) (fun k h1 h2 => hb.block k (by omega)))
  clear y1_14
  have bd00_15 := (hb.cell (p := ⟨w.heap.size, 0, none⟩) (by show w.heap.size < _; omega)).trans bd00_14
  clear bd00_14
  have bd01_15 := (hb.cell (p := ⟨w.heap.size, 1, none⟩) (by show w.heap.size < _; omega)).trans bd01_14
  clear bd01_14
  have bw00_15 := (hb.cell (p := ⟨w5.heap.size, 0, none⟩) (by show w5.heap.size < _; omega)).trans bw00_14
  clear bw00_14
  have bw01_15 := (hb.cell (p := ⟨w5.heap.size, 1, none⟩) (by show w5.heap.size < _; omega)).trans bw01_14
  clear bw01_14
  have bx00_15 := (hb.cell (p := ⟨w7.heap.size, 0, none⟩) (by show w7.heap.size < _; omega)).trans bx00_14
  clear bx00_14
  have bx01_15 := (hb.cell (p := ⟨w7.heap.size, 1, none⟩) (by show w7.heap.size < _; omega)).trans bx01_14
  clear bx01_14
  have bg00_15 := (hb.cell (p := ⟨w10.heap.size, 0, none⟩) (by show w10.heap.size < _; omega)).trans bg00_14
  clear bg00_14
  have bg01_15 := (hb.cell (p := ⟨w10.heap.size, 1, none⟩) (by show w10.heap.size < _; omega)).trans bg01_14
  clear bg01_14
  clear hb
  go_wp2_with fail
  refine (markD_v w15 x0 (1) x0_15.out (HN0.out) (by omega) (by omega)).mono ?_
  rintro e w16 ⟨rfl, ⟨x0Y, ho, x0hM⟩, hb⟩
  have z16 : w15.heap.size ≤ w16.heap.size := hb.size
  have B16 : Below w.heap.size w w16 := B15.trans (hb.below (by omega) (by omega))
  have p0_16 := Lib.hid (p0_15.out.step (w' := w16) (fun k h1 h2 => hb.block k (by omega) (by first | exact Or.inl (by omega) | exact Or.inr (by omega))))
  clear p0_15
  have p1_16 := Lib.hid (p1_15.out.step (w' := w16) (fun k h1 h2 => hb.block k (by omega) (by first | exact Or.inl (by omega) | exact Or.inr (by omega))))
  clear p1_15
  have w0_16 := Lib.hid (w0_15.out.step (w' := w16) (fun k h1 h2 => hb.block k (by omega) (by first | exact Or.inl (by omega) | exact Or.inr (by omega))))
  clear w0_15
  have x1_16 := Lib.hid (x1_15.out.step (w' := w16) (fun k h1 h2 => hb.block k (by omega) (by first | exact Or.inl (by omega) | exact Or.inr (by omega))))
  clear x1_15
  have g0_16 := Lib.hid (g0_15.out.step (w' := w16) (fun k h1 h2 => hb.block k (by omega) (by first | exact Or.inl (by omega) | exact Or.inr (by omega))))
  clear g0_15
  have y1_16 := Lib.hid (y1_15.out.step (w' := w16) (fun k h1 h2 => hb.block k (by omega) (by first | exact Or.inl (by omega) | exact Or.inr (by omega))))
  clear y1_15
  have bd00_16 := (World.cell?_of_block (a := ⟨w.heap.size, 0, none⟩) (hb.block (w.heap.size) (by omega) (by first | exact Or.inl (by omega) | exact Or.inr (by omega)))).trans bd00_15
  clear bd00_15
  have bd01_16 := (World.cell?_of_block (a := ⟨w.heap.size, 1, none⟩) (hb.block (w.heap.size) (by omega) (by first | exact Or.inl (by omega) | exact Or.inr (by omega)))).trans bd01_15
  clear bd01_15
  have bw00_16 := (World.cell?_of_block (a := ⟨w5.heap.size, 0, none⟩) (hb.block (w5.heap.size) (by omega) (by first | exact Or.inl (by omega) | exact Or.inr (by omega)))).trans bw00_15
  clear bw00_15
  have bw01_16 := (World.cell?_of_block (a := ⟨w5.heap.size, 1, none⟩) (hb.block (w5.heap.size) (by omega) (by first | exact Or.inl (by omega) | exact Or.inr (by omega)))).trans bw01_15
  clear bw01_15
  have bx00_16 := (World.cell?_of_block (a := ⟨w7.heap.size, 0, none⟩) (hb.block (w7.heap.size) (by omega) (by first | exact Or.inl (by omega) | exact Or.inr (by omega)))).trans bx00_15
  clear bx00_15
  have bx01_16 := (World.cell?_of_block (a := ⟨w7.heap.size, 1, none⟩) (hb.block (w7.heap.size) (by omega) (by first | exact Or.inl (by omega) | exact Or.inr (by omega)))).trans bx01_15
  clear bx01_15
  have bg00_16 := (World.cell?_of_block (a := ⟨w10.heap.size, 0, none⟩) (hb.block (w10.heap.size) (by omega) (by first | exact Or.inl (by omega) | exact Or.inr (by omega)))).trans bg00_15
  clear bg00_15
  have bg01_16 := (World.cell?_of_block (a := ⟨w10.heap.size, 1, none⟩) (hb.block (w10.heap.size) (by omega) (by first | exact Or.inl (by omega) | exact Or.inr (by omega)))).trans bg01_15
  clear bg01_15
  clear hb
  have x0_16 := Lib.hid ho
  clear ho x0_15
  have x0HM := Lib.hid x0hM
  clear x0hM
  go_wp2_with fail
  refine (markS_v w16 (1 + ((tot (xs0) : Nat) : Int)) x1_16.out (HN1.out) (by omega) (by omega)).mono ?_
  rintro e w17 ⟨rfl, ho, hb⟩
  have z17 : w16.heap.size ≤ w17.heap.size := hb.size
  have B17 : Below w.heap.size w w17 := B16.trans (hb.below (by omega) (by omega))
  have p0_17 := Lib.hid (p0_16.out.step (w' := w17) (fun k h1 h2 => hb.block k (by omega) (by first | exact Or.inl (by omega) | exact Or.inr (by omega))))
  clear p0_16
  have p1_17 := Lib.hid (p1_16.out.step (w' := w17) (fun k h1 h2 => hb.block k (by omega) (by first | exact Or.inl (by omega) | exact Or.inr (by omega))))
  clear p1_16
  have w0_17 := Lib.hid (w0_16.out.step (w' := w17) (fun k h1 h2 => hb.block k (by omega) (by first | exact Or.inl (by omega) | exact Or.inr (by omega))))
  clear w0_16
  have x0_17 := Lib.hid (x0_16.out.step (w' := w17) (fun k h1 h2 => hb.block k (by omega) (by first | exact Or.inl (by omega) | exact Or.inr (by omega))))
  clear x0_16
  have g0_17 := Lib.hid (g0_16.out.step (w' := w17) (fun k h1 h2 => hb.block k (by omega) (by first | exact Or.inl (by omega) | exact Or.inr (by omega))))
  clear g0_16
  have y1_17 := Lib.hid (y1_16.out.step (w' := w17) (fun k h1 h2 => hb.block k (by omega) (by first | exact Or.inl (by omega) | exact Or.inr (by omega))))
  clear y1_16
  have bd00_17 := (World.cell?_of_block (a := ⟨w.heap.size, 0, none⟩) (hb.block (w.heap.size) (by omega) (by first | exact Or.inl (by omega) | exact Or.inr (by omega)))).trans bd00_16
  clear bd00_16
  have bd01_17 := (World.cell?_of_block (a := ⟨w.heap.size, 1, none⟩) (hb.block (w.heap.size) (by omega) (by first | exact Or.inl (by omega) | exact Or.inr (by omega)))).trans bd01_16
  clear bd01_16
  have bw00_17 := (World.cell?_of_block (a := ⟨w5.heap.size, 0, none⟩) (hb.block (w5.heap.size) (by omega) (by first | exact Or.inl (by omega) | exact Or.inr (by omega)))).trans bw00_16
  clear bw00_16
  have bw01_17 := (World.cell?_of_block (a := ⟨w5.heap.size, 1, none⟩) (hb.block (w5.heap.size) (by omega) (by first | exact Or.inl (by omega) | exact Or.inr (by omega)))).trans bw01_16
  clear bw01_16
  have bx00_17 := (World.cell?_of_block (a := ⟨w7.heap.size, 0, none⟩) (hb.block (w7.heap.size) (by omega) (by first | exact Or.inl (by omega) | exact Or.inr (by omega)))).trans bx00_16
  clear bx00_16
  have bx01_17 := (World.cell?_of_block (a := ⟨w7.heap.size, 1, none⟩) (hb.block (w7.heap.size) (by omega) (by first | exact Or.inl (by omega) | exact Or.inr (by omega)))).trans bx01_16
  clear bx01_16
  have bg00_17 := (World.cell?_of_block (a := ⟨w10.heap.size, 0, none⟩) (hb.block (w10.heap.size) (by omega) (by first | exact Or.inl (by omega) | exact Or.inr (by omega)))).trans bg00_16
  clear bg00_16
  have bg01_17 := (World.cell?_of_block (a := ⟨w10.heap.size, 1, none⟩) (hb.block (w10.heap.size) (by omega) (by first | exact Or.inl (by omega) | exact Or.inr (by omega)))).trans bg01_16
  clear bg01_16
  clear hb
  have x1_17 := Lib.hid ho
  clear ho x1_16
  go_wp2_with fail
  refine (eqD_v w17 (spP x0 xs0 xs1) g0_17.out.own.rd w0_17.out.own.rd (HL.out) (by have := HL.out; omega) (fun k hk => by have := row_small HS k hk; omega)).mono ?_
  rintro e w18 ⟨rfl, hb⟩
  have z18 : w17.heap.size ≤ w18.heap.size := hb.size
  have B18 : Below w.heap.size w w18 := B17.trans (hb.mono (by omega))
  have p0_18 := Lib.hid (p0_17.out.step (w' := w18) (fun k h1 h2 => hb.block k (by omega)))
  clear p0_17
  have p1_18 := Lib.hid (p1_17.out.step (w' := w18) (fun k h1 h2 => hb.block k (by omega)))
  clear p1_17
  have w0_18 := Lib.hid (w0_17.out.step (w' := w18) (fun k h1 h2 => hb.block k (by omega)))
  clear w0_17
  have x0_18 := Lib.hid (x0_17.out.step (w' := w18) (fun k h1 h2 => hb.block k (by omega)))
  clear x0_17
  have x1_18 := Lib.hid (x1_17.out.step (w' := w18) (fun k h1 h2 => hb.block k (by omega)))
  clear x1_17
  have g0_18 := Lib.hid (g0_17.out.step (w' := w18) (fun k h1 h2 => hb.block k (by omega)))
  clear g0_17
  have y1_18 := Lib.hid (y1_17.out.step (w' := w18) (fun k h1 h2 => hb.block k (by omega)))
  clear y1_17
  have bd00_18 := (hb.cell (p := ⟨w.heap.size, 0, none⟩) (by show w.heap.size < _; omega)).trans bd00_17
  clear bd00_17
  have bd01_18 := (hb.cell (p := ⟨w.heap.size, 1, none⟩) (by show w.heap.size < _; omega)).trans bd01_17
  clear bd01_17
  have bw00_18 := (hb.cell (p := ⟨w5.heap.size, 0, none⟩) (by show w5.heap.size < _; omega)).trans bw00_17
  clear bw00_17
  have bw01_18 := (hb.cell (p := ⟨w5.heap.size, 1, none⟩) (by show w5.heap.size < _; omega)).trans bw01_17
  clear bw01_17
  have bx00_18 := (hb.cell (p := ⟨w7.heap.size, 0, none⟩) (by show w7.heap.size < _; omega)).trans bx00_17
  clear bx00_17
  have bx01_18 := (hb.cell (p := ⟨w7.heap.size, 1, none⟩) (by show w7.heap.size < _; omega)).trans bx01_17
  clear bx01_17
  have bg00_18 := (hb.cell (p := ⟨w10.heap.size, 0, none⟩) (by show w10.heap.size < _; omega)).trans bg00_17
  clear bg00_17
  have bg01_18 := (hb.cell (p := ⟨w10.heap.size, 1, none⟩) (by show w10.heap.size < _; omega)).trans bg01_17
  clear bg01_17
  clear hb
  go_wp2_with fail
  refine (markD_v w18 (spP x0 xs0 xs1) (1) g0_18.out (HL.out) (by omega) (by omega)).mono ?_
  rintro e w19 ⟨rfl, ⟨g0Y, ho, g0hM⟩, hb⟩
  have z19 : w18.heap.size ≤ w19.heap.size := hb.size
  have B19 : Below w.heap.size w w19 := B18.trans (hb.below (by omega) (by omega))
  have p0_19 := Lib.hid (p0_18.out.step (w' := w19) (fun k h1 h2 => hb.block k (by omega) (by first | exact Or.inl (by omega) | exact Or.inr (by omega))))
  clear p0_18
  have p1_19 := Lib.hid (p1_18.out.step (w' := w19) (fun k h1 h2 => hb.block k (by omega) (by first | exact Or.inl (by omega) | exact Or.inr (by omega))))
  clear p1_18
  have w0_19 := Lib.hid (w0_18.out.step (w' := w19) (fun k h1 h2 => hb.block k (by omega) (by first | exact Or.inl (by omega) | exact Or.inr (by omega))))
  clear w0_18
  have x0_19 := Lib.hid (x0_18.out.step (w' := w19) (fun k h1 h2 => hb.block k (by omega) (by first | exact Or.inl (by omega) | exact Or.inr (by omega))))
  clear x0_18
  have x1_19 := Lib.hid (x1_18.out.step (w' := w19) (fun k h1 h2 => hb.block k (by omega) (by first | exact Or.inl (by omega) | exact Or.inr (by omega))))
  clear x1_18
  have y1_19 := Lib.hid (y1_18.out.step (w' := w19) (fun k h1 h2 => hb.block k (by omega) (by first | exact Or.inl (by omega) | exact Or.inr (by omega))))
  clear y1_18
  have bd00_19 := (World.cell?_of_block (a := ⟨w.heap.size, 0, none⟩) (hb.block (w.heap.size) (by omega) (by first | exact Or.inl (by omega) | exact Or.inr (by omega)))).trans bd00_18
  clear bd00_18
  have bd01_19 := (World.cell?_of_block (a := ⟨w.heap.size, 1, none⟩) (hb.block (w.heap.size) (by omega) (by first | exact Or.inl (by omega) | exact Or.inr (by omega)))).trans bd01_18
  clear bd01_18
  have bw00_19 := (World.cell?_of_block (a := ⟨w5.heap.size, 0, none⟩) (hb.block (w5.heap.size) (by omega) (by first | exact Or.inl (by omega) | exact Or.inr (by omega)))).trans bw00_18
  clear bw00_18
  have bw01_19 := (World.cell?_of_block (a := ⟨w5.heap.size, 1, none⟩) (hb.block (w5.heap.size) (by omega) (by first | exact Or.inl (by omega) | exact Or.inr (by omega)))).trans bw01_18
  clear bw01_18
  have bx00_19 := (World.cell?_of_block (a := ⟨w7.heap.size, 0, none⟩) (hb.block (w7.heap.size) (by omega) (by first | exact Or.inl (by omega) | exact Or.inr (by omega)))).trans bx00_18
  clear bx00_18
  have bx01_19 := (World.cell?_of_block (a := ⟨w7.heap.size, 1, none⟩) (hb.block (w7.heap.size) (by omega) (by first | exact Or.inl (by omega) | exact Or.inr (by omega)))).trans bx01_18
  clear bx01_18
  have bg00_19 := (World.cell?_of_block (a := ⟨w10.heap.size, 0, none⟩) (hb.block (w10.heap.size) (by omega) (by first | exact Or.inl (by omega) | exact Or.inr (by omega)))).trans bg00_18
  clear bg00_18
  have bg01_19 := (World.cell?_of_block (a := ⟨w10.heap.size, 1, none⟩) (hb.block (w10.heap.size) (by omega) (by first | exact Or.inl (by omega) | exact Or.inr (by omega)))).trans bg01_18
  clear bg01_18
  clear hb
  have g0_19 := Lib.hid ho
  clear ho g0_18
  have g0HM := Lib.hid g0hM
  clear g0hM
  go_wp2_with fail
  refine (heldD_v w19 (spP x0 xs0 xs1) (1) g0_19.out.own.rd (g0HM.out) (HL.out) (by omega) (by omega)).mono ?_
  rintro e w20 ⟨rfl, hb⟩
  have z20 : w19.heap.size ≤ w20.heap.size := hb.size
  have B20 : Below w.heap.size w w20 := B19.trans (hb.mono (by omega))
  have p0_20 := Lib.hid (p0_19.out.step (w' := w20) (fun k h1 h2 => hb.block k (by omega)))
  clear p0_19
  have p1_20 := Lib.hid (p1_19.out.step (w' := w20) (fun k h1 h2 => hb.block k (by omega)))
  clear p1_19
  have w0_20 := Lib.hid (w0_19.out.step (w' := w20) (fun k h1 h2 => hb.block k (by omega)))
  clear w0_19
  have x0_20 := Lib.hid (x0_19.out.step (w' := w20) (fun k h1 h2 => hb.block k (by omega)))
  clear x0_19
  have x1_20 := Lib.hid (x1_19.out.step (w' := w20) (fun k h1 h2 => hb.block k (by omega)))
  clear x1_19
  have g0_20 := Lib.hid (g0_19.out.step (w' := w20) (fun k h1 h2 => hb.block k (by omega)))
  clear g0_19
  have y1_20 := Lib.hid (y1_19.out.step (w' := w20) (fun k h1 h2 => hb.block k (by omega)))
  clear y1_19
  have bd00_20 := (hb.cell (p := ⟨w.heap.size, 0, none⟩) (by show w.heap.size < _; omega)).trans bd00_19
  clear bd00_19
  have bd01_20 := (hb.cell (p := ⟨w.heap.size, 1, none⟩) (by show w.heap.size < _; omega)).trans bd01_19
  clear bd01_19
  have bw00_20 := (hb.cell (p := ⟨w5.heap.size, 0, none⟩) (by show w5.heap.size < _; omega)).trans bw00_19
  clear bw00_19
  have bw01_20 := (hb.cell (p := ⟨w5.heap.size, 1, none⟩) (by show w5.heap.size < _; omega)).trans bw01_19
  clear bw01_19
  have bx00_20 := (hb.cell (p := ⟨w7.heap.size, 0, none⟩) (by show w7.heap.size < _; omega)).trans bx00_19
  clear bx00_19
  have bx01_20 := (hb.cell (p := ⟨w7.heap.size, 1, none⟩) (by show w7.heap.size < _; omega)).trans bx01_19
  clear bx01_19
  have bg00_20 := (hb.cell (p := ⟨w10.heap.size, 0, none⟩) (by show w10.heap.size < _; omega)).trans bg00_19
  clear bg00_19
  have bg01_20 := (hb.cell (p := ⟨w10.heap.size, 1, none⟩) (by show w10.heap.size < _; omega)).trans bg01_19
  clear bg01_19
  clear hb
  go_wp2_with fail
  refine (toD w20 x0 A0 n0 c0 R0 xs0 ((HR0.out).below B20) (HN0.out) (by omega) (fun k hk => by have := row_small HT0 k (by rw [HN0.out]; exact hk); omega)).mono ?_
  rintro e w21 ⟨⟨z0A, z0R, rfl, ho⟩, hb⟩
  have z21 : w20.heap.size ≤ w21.heap.size := hb.size
  have B21 : Below w.heap.size w w21 := B20.trans (hb.mono (by omega))
  have p0_21 := Lib.hid (p0_20.out.step (w' := w21) (fun k h1 h2 => hb.block k (by omega)))
  clear p0_20
  have p1_21 := Lib.hid (p1_20.out.step (w' := w21) (fun k h1 h2 => hb.block k (by omega)))
  clear p1_20
  have w0_21 := Lib.hid (w0_20.out.step (w' := w21) (fun k h1 h2 => hb.block k (by omega)))
  clear w0_20
  have x0_21 := Lib.hid (x0_20.out.step (w' := w21) (fun k h1 h2 => hb.block k (by omega)))
  clear x0_20
  have x1_21 := Lib.hid (x1_20.out.step (w' := w21) (fun k h1 h2 => hb.block k (by omega)))
  clear x1_20
  have g0_21 := Lib.hid (g0_20.out.step (w' := w21) (fun k h1 h2 => hb.block k (by omega)))
  clear g0_20
  have y1_21 := Lib.hid (y1_20.out.step (w' := w21) (fun k h1 h2 => hb.block k (by omega)))
  clear y1_20
  have bd00_21 := (hb.cell (p := ⟨w.heap.size, 0, none⟩) (by show w.heap.size < _; omega)).trans bd00_20
  clear bd00_20
  have bd01_21 := (hb.cell (p := ⟨w.heap.size, 1, none⟩) (by show w.heap.size < _; omega)).trans bd01_20
  clear bd01_20
  have bw00_21 := (hb.cell (p := ⟨w5.heap.size, 0, none⟩) (by show w5.heap.size < _; omega)).trans bw00_20
  clear bw00_20
  have bw01_21 := (hb.cell (p := ⟨w5.heap.size, 1, none⟩) (by show w5.heap.size < _; omega)).trans bw01_20
  clear bw01_20
  have bx00_21 := (hb.cell (p := ⟨w7.heap.size, 0, none⟩) (by show w7.heap.size < _; omega)).trans bx00_20
  clear bx00_20
  have bx01_21 := (hb.cell (p := ⟨w7.heap.size, 1, none⟩) (by show w7.heap.size < _; omega)).trans bx01_20
  clear bx01_20
  have bg00_21 := (hb.cell (p := ⟨w10.heap.size, 0, none⟩) (by show w10.heap.size < _; omega)).trans bg00_20
  clear bg00_20
  have bg01_21 := (hb.cell (p := ⟨w10.heap.size, 1, none⟩) (by show w10.heap.size < _; omega)).trans bg01_20
  clear bg01_20
  clear hb
  have z0_21 := Lib.hid ho.in_
  clear ho
  go_wp2_with fail
  refine (toS w21 A1 n1 c1 xs1 ((HR1.out).below B21) (HN1.out) (by omega)).mono ?_
  rintro e w22 ⟨⟨z1A, rfl, ho⟩, hb⟩
  have z22 : w21.heap.size ≤ w22.heap.size := hb.size
  have B22 : Below w.heap.size w w22 := B21.trans (hb.mono (by omega))
  have p0_22 := Lib.hid (p0_21.out.step (w' := w22) (fun k h1 h2 => hb.block k (by omega)))
  clear p0_21
  have p1_22 := Lib.hid (p1_21.out.step (w' := w22) (fun k h1 h2 => hb.block k (by omega)))
  clear p1_21
  have w0_22 := Lib.hid (w0_21.out.step (w' := w22) (fun k h1 h2 => hb.block k (by omega)))
  clear w0_21
  have x0_22 := Lib.hid (x0_21.out.step (w' := w22) (fun k h1 h2 => hb.block k (by omega)))
  clear x0_21
  have x1_22 := Lib.hid (x1_21.out.step (w' := w22) (fun k h1 h2 => hb.block k (by omega)))
  clear x1_21
  have g0_22 := Lib.hid (g0_21.out.step (w' := w22) (fun k h1 h2 => hb.block k (by omega)))
  clear g0_21
  have y1_22 := Lib.hid (y1_21.out.step (w' := w22) (fun k h1 h2 => hb.block k (by omega)))
  clear y1_21
  have z0_22 := Lib.hid (z0_21.out.step (w' := w22) (fun k h1 h2 => hb.block k (by omega)))
  clear z0_21
  have bd00_22 := (hb.cell (p := ⟨w.heap.size, 0, none⟩) (by show w.heap.size < _; omega)).trans bd00_21
  clear bd00_21
  have bd01_22 := (hb.cell (p := ⟨w.heap.size, 1, none⟩) (by show w.heap.size < _; omega)).trans bd01_21
  clear bd01_21
  have bw00_22 := (hb.cell (p := ⟨w5.heap.size, 0, none⟩) (by show w5.heap.size < _; omega)).trans bw00_21
  clear bw00_21
  have bw01_22 := (hb.cell (p := ⟨w5.heap.size, 1, none⟩) (by show w5.heap.size < _; omega)).trans bw01_21
  clear bw01_21
  have bx00_22 := (hb.cell (p := ⟨w7.heap.size, 0, none⟩) (by show w7.heap.size < _; omega)).trans bx00_21
  clear bx00_21
  have bx01_22 := (hb.cell (p := ⟨w7.heap.size, 1, none⟩) (by show w7.heap.size < _; omega)).trans bx01_21
  clear bx01_21
  have bg00_22 := (hb.cell (p := ⟨w10.heap.size, 0, none⟩) (by show w10.heap.size < _; omega)).trans bg00_21
  clear bg00_21
  have bg01_22 := (hb.cell (p := ⟨w10.heap.size, 1, none⟩) (by show w10.heap.size < _; omega)).trans bg01_21
  clear bg01_21
  clear hb
  have z1_22 := Lib.hid ho.in_
  clear ho
  go_wp2_with fail
  refine (implSwitchPasch_c w22 x0 hb0 z0A n0 n0 z0R xs0 z0_22.out.own.rd (HN0.out) hw0 (by omega) z1A n1 n1 xs1 z1_22.out.own.rd (HN1.out) hw1 (by omega)).mono ?_
  rintro e w23 ⟨⟨h0A, h0n, h0c, h0R, rfl, h0hn, ho⟩, hb⟩
  obtain rfl : w0n = h0n := HL.out.symm.trans h0hn
  clear h0hn
  have z23 : w22.heap.size ≤ w23.heap.size := hb.size
  have B23 : Below w.heap.size w w23 := B22.trans (hb.mono (by omega))
  have p0_23 := Lib.hid (p0_22.out.step (w' := w23) (fun k h1 h2 => hb.block k (by omega)))
  clear p0_22
  have p1_23 := Lib.hid (p1_22.out.step (w' := w23) (fun k h1 h2 => hb.block k (by omega)))
  clear p1_22
  have w0_23 := Lib.hid (w0_22.out.step (w' := w23) (fun k h1 h2 => hb.block k (by omega)))
  clear w0_22
  have x0_23 := Lib.hid (x0_22.out.step (w' := w23) (fun k h1 h2 => hb.block k (by omega)))
  clear x0_22
  have x1_23 := Lib.hid (x1_22.out.step (w' := w23) (fun k h1 h2 => hb.block k (by omega)))
  clear x1_22
  have g0_23 := Lib.hid (g0_22.out.step (w' := w23) (fun k h1 h2 => hb.block k (by omega)))
  clear g0_22
  have y1_23 := Lib.hid (y1_22.out.step (w' := w23) (fun k h1 h2 => hb.block k (by omega)))
  clear y1_22
  have z0_23 := Lib.hid (z0_22.out.step (w' := w23) (fun k h1 h2 => hb.block k (by omega)))
  clear z0_22
  have z1_23 := Lib.hid (z1_22.out.step (w' := w23) (fun k h1 h2 => hb.block k (by omega)))
  clear z1_22
  have bd00_23 := (hb.cell (p := ⟨w.heap.size, 0, none⟩) (by show w.heap.size < _; omega)).trans bd00_22
  clear bd00_22
  have bd01_23 := (hb.cell (p := ⟨w.heap.size, 1, none⟩) (by show w.heap.size < _; omega)).trans bd01_22
  clear bd01_22
  have bw00_23 := (hb.cell (p := ⟨w5.heap.size, 0, none⟩) (by show w5.heap.size < _; omega)).trans bw00_22
  clear bw00_22
  have bw01_23 := (hb.cell (p := ⟨w5.heap.size, 1, none⟩) (by show w5.heap.size < _; omega)).trans bw01_22
  clear bw01_22
  have bx00_23 := (hb.cell (p := ⟨w7.heap.size, 0, none⟩) (by show w7.heap.size < _; omega)).trans bx00_22
  clear bx00_22
  have bx01_23 := (hb.cell (p := ⟨w7.heap.size, 1, none⟩) (by show w7.heap.size < _; omega)).trans bx01_22
  clear bx01_22
  have bg00_23 := (hb.cell (p := ⟨w10.heap.size, 0, none⟩) (by show w10.heap.size < _; omega)).trans bg00_22
  clear bg00_22
  have bg01_23 := (hb.cell (p := ⟨w10.heap.size, 1, none⟩) (by show w10.heap.size < _; omega)).trans bg01_22
  clear bg01_22
  clear hb
  have h0_23 := Lib.hid ho.in_
  clear ho
  have hb : Below w23.heap.size w23 (w23.alloc (.cells #[.int .i64 (spP x0 xs0 xs1), .slice h0A w0n h0c] 28)) := below_boxed _ _
  have qh0 : w23.heap.size < (w23.alloc (.cells #[.int .i64 (spP x0 xs0 xs1), .slice h0A w0n h0c] 28)).heap.size := by simp
  have bh00_24 : (w23.alloc (.cells #[.int .i64 (spP x0 xs0 xs1), .slice h0A w0n h0c] 28)).cell? ⟨w23.heap.size, 0, none⟩ = some (.int .i64 (spP x0 xs0 xs1)) := by simp [go_sem]
  have bh01_24 : (w23.alloc (.cells #[.int .i64 (spP x0 xs0 xs1), .slice h0A w0n h0c] 28)).cell? ⟨w23.heap.size, 1, none⟩ = some (.slice h0A w0n h0c) := by simp [go_sem]
  have ed00 := (hb.cell (p := ⟨w.heap.size, 0, none⟩) (by show w.heap.size < _; omega)).trans bd00_23
  have ed01 := (hb.cell (p := ⟨w.heap.size, 1, none⟩) (by show w.heap.size < _; omega)).trans bd01_23
  have ew00 := (hb.cell (p := ⟨w5.heap.size, 0, none⟩) (by show w5.heap.size < _; omega)).trans bw00_23
  have ew01 := (hb.cell (p := ⟨w5.heap.size, 1, none⟩) (by show w5.heap.size < _; omega)).trans bw01_23
  have ex00 := (hb.cell (p := ⟨w7.heap.size, 0, none⟩) (by show w7.heap.size < _; omega)).trans bx00_23
  have ex01 := (hb.cell (p := ⟨w7.heap.size, 1, none⟩) (by show w7.heap.size < _; omega)).trans bx01_23
  have eg00 := (hb.cell (p := ⟨w10.heap.size, 0, none⟩) (by show w10.heap.size < _; omega)).trans bg00_23
  have eg01 := (hb.cell (p := ⟨w10.heap.size, 1, none⟩) (by show w10.heap.size < _; omega)).trans bg01_23
  go_wp2_with fail
  clear ed00 ed01
  clear ew00 ew01
  clear ex00 ex01
  clear eg00 eg01
  generalize (w23.alloc (.cells #[.int .i64 (spP x0 xs0 xs1), .slice h0A w0n h0c] 28)) = w24 at *
  have z24 : w23.heap.size ≤ w24.heap.size := hb.size
  have B24 : Below w.heap.size w w24 := B23.trans (hb.mono (by omega))
  have p0_24 := Lib.hid (p0_23.out.step (w' := w24) (fun k h1 h2 => hb.block k (by omega)))
  clear p0_23
  have p1_24 := Lib.hid (p1_23.out.step (w' := w24) (fun k h1 h2 => hb.block k (by omega)))
  clear p1_23
  have w0_24 := Lib.hid (w0_23.out.step (w' := w24) (fun k h1 h2 => hb.block k (by omega)))
  clear w0_23
  have x0_24 := Lib.hid (x0_23.out.step (w' := w24) (fun k h1 h2 => hb.block k (by omega)))
  clear x0_23
  have x1_24 := Lib.hid (x1_23.out.step (w' := w24) (fun k h1 h2 => hb.block k (by omega)))
  clear x1_23
  have g0_24 := Lib.hid (g0_23.out.step (w' := w24) (fun k h1 h2 => hb.block k (by omega)))
  clear g0_23
  have y1_24 := Lib.hid (y1_23.out.step (w' := w24) (fun k h1 h2 => hb.block k (by omega)))
  clear y1_23
  have z0_24 := Lib.hid (z0_23.out.step (w' := w24) (fun k h1 h2 => hb.block k (by omega)))
  clear z0_23
  have z1_24 := Lib.hid (z1_23.out.step (w' := w24) (fun k h1 h2 => hb.block k (by omega)))
  clear z1_23
  have h0_24 := Lib.hid (h0_23.out.step (w' := w24) (fun k h1 h2 => hb.block k (by omega)))
  clear h0_23
  have bd00_24 := (hb.cell (p := ⟨w.heap.size, 0, none⟩) (by show w.heap.size < _; omega)).trans bd00_23
  clear bd00_23
  have bd01_24 := (hb.cell (p := ⟨w.heap.size, 1, none⟩) (by show w.heap.size < _; omega)).trans bd01_23
  clear bd01_23
  have bw00_24 := (hb.cell (p := ⟨w5.heap.size, 0, none⟩) (by show w5.heap.size < _; omega)).trans bw00_23
  clear bw00_23
  have bw01_24 := (hb.cell (p := ⟨w5.heap.size, 1, none⟩) (by show w5.heap.size < _; omega)).trans bw01_23
  clear bw01_23
  have bx00_24 := (hb.cell (p := ⟨w7.heap.size, 0, none⟩) (by show w7.heap.size < _; omega)).trans bx00_23
  clear bx00_23
  have bx01_24 := (hb.cell (p := ⟨w7.heap.size, 1, none⟩) (by show w7.heap.size < _; omega)).trans bx01_23
  clear bx01_23
  have bg00_24 := (hb.cell (p := ⟨w10.heap.size, 0, none⟩) (by show w10.heap.size < _; omega)).trans bg00_23
  clear bg00_23
  have bg01_24 := (hb.cell (p := ⟨w10.heap.size, 1, none⟩) (by show w10.heap.size < _; omega)).trans bg01_23
  clear bg01_23
  clear hb
  go_wp2_with fail
  refine (eqD_v w24 (spP x0 xs0 xs1) h0_24.out.own.rd w0_24.out.own.rd (HL.out) (by have := HL.out; omega) (fun k hk => by have := row_small HS k hk; omega)).mono ?_
  rintro e w25 ⟨rfl, hb⟩
  have z25 : w24.heap.size ≤ w25.heap.size := hb.size
  have B25 : Below w.heap.size w w25 := B24.trans (hb.mono (by omega))
  have p0_25 := Lib.hid (p0_24.out.step (w' := w25) (fun k h1 h2 => hb.block k (by omega)))
  clear p0_24
  have p1_25 := Lib.hid (p1_24.out.step (w' := w25) (fun k h1 h2 => hb.block k (by omega)))
  clear p1_24
  have w0_25 := Lib.hid (w0_24.out.step (w' := w25) (fun k h1 h2 => hb.block k (by omega)))
  clear w0_24
  have x0_25 := Lib.hid (x0_24.out.step (w' := w25) (fun k h1 h2 => hb.block k (by omega)))
  clear x0_24
  have x1_25 := Lib.hid (x1_24.out.step (w' := w25) (fun k h1 h2 => hb.block k (by omega)))
  clear x1_24
  have g0_25 := Lib.hid (g0_24.out.step (w' := w25) (fun k h1 h2 => hb.block k (by omega)))
  clear g0_24
  have y1_25 := Lib.hid (y1_24.out.step (w' := w25) (fun k h1 h2 => hb.block k (by omega)))
  clear y1_24
  have z0_25 := Lib.hid (z0_24.out.step (w' := w25) (fun k h1 h2 => hb.block k (by omega)))
  clear z0_24
  have z1_25 := Lib.hid (z1_24.out.step (w' := w25) (fun k h1 h2 => hb.block k (by omega)))
  clear z1_24
  have h0_25 := Lib.hid (h0_24.out.step (w' := w25) (fun k h1 h2 => hb.block k (by omega)))
  clear h0_24
  have bd00_25 := (hb.cell (p := ⟨w.heap.size, 0, none⟩) (by show w.heap.size < _; omega)).trans bd00_24
  clear bd00_24
  have bd01_25 := (hb.cell (p := ⟨w.heap.size, 1, none⟩) (by show w.heap.size < _; omega)).trans bd01_24
  clear bd01_24
  have bw00_25 := (hb.cell (p := ⟨w5.heap.size, 0, none⟩) (by show w5.heap.size < _; omega)).trans bw00_24
  clear bw00_24
  have bw01_25 := (hb.cell (p := ⟨w5.heap.size, 1, none⟩) (by show w5.heap.size < _; omega)).trans bw01_24
  clear bw01_24
  have bx00_25 := (hb.cell (p := ⟨w7.heap.size, 0, none⟩) (by show w7.heap.size < _; omega)).trans bx00_24
  clear bx00_24
  have bx01_25 := (hb.cell (p := ⟨w7.heap.size, 1, none⟩) (by show w7.heap.size < _; omega)).trans bx01_24
  clear bx01_24
  have bg00_25 := (hb.cell (p := ⟨w10.heap.size, 0, none⟩) (by show w10.heap.size < _; omega)).trans bg00_24
  clear bg00_24
  have bg01_25 := (hb.cell (p := ⟨w10.heap.size, 1, none⟩) (by show w10.heap.size < _; omega)).trans bg01_24
  clear bg01_24
  have bh00_25 := (hb.cell (p := ⟨w23.heap.size, 0, none⟩) (by show w23.heap.size < _; omega)).trans bh00_24
  clear bh00_24
  have bh01_25 := (hb.cell (p := ⟨w23.heap.size, 1, none⟩) (by show w23.heap.size < _; omega)).trans bh01_24
  clear bh01_24
  clear hb
  go_wp2_with fail
  refine (heldD_v w25 (spP x0 xs0 xs1) (1) g0_25.out.own.rd (g0HM.out) (HL.out) (by omega) (by omega)).mono ?_
  rintro e w26 ⟨rfl, hb⟩
  have z26 : w25.heap.size ≤ w26.heap.size := hb.size
  have B26 : Below w.heap.size w w26 := B25.trans (hb.mono (by omega))
  have p0_26 := Lib.hid (p0_25.out.step (w' := w26) (fun k h1 h2 => hb.block k (by omega)))
  clear p0_25
  have p1_26 := Lib.hid (p1_25.out.step (w' := w26) (fun k h1 h2 => hb.block k (by omega)))
  clear p1_25
  have w0_26 := Lib.hid (w0_25.out.step (w' := w26) (fun k h1 h2 => hb.block k (by omega)))
  clear w0_25
  have x0_26 := Lib.hid (x0_25.out.step (w' := w26) (fun k h1 h2 => hb.block k (by omega)))
  clear x0_25
  have x1_26 := Lib.hid (x1_25.out.step (w' := w26) (fun k h1 h2 => hb.block k (by omega)))
  clear x1_25
  have g0_26 := Lib.hid (g0_25.out.step (w' := w26) (fun k h1 h2 => hb.block k (by omega)))
  clear g0_25
  have y1_26 := Lib.hid (y1_25.out.step (w' := w26) (fun k h1 h2 => hb.block k (by omega)))
  clear y1_25
  have z0_26 := Lib.hid (z0_25.out.step (w' := w26) (fun k h1 h2 => hb.block k (by omega)))
  clear z0_25
  have z1_26 := Lib.hid (z1_25.out.step (w' := w26) (fun k h1 h2 => hb.block k (by omega)))
  clear z1_25
  have h0_26 := Lib.hid (h0_25.out.step (w' := w26) (fun k h1 h2 => hb.block k (by omega)))
  clear h0_25
  have bd00_26 := (hb.cell (p := ⟨w.heap.size, 0, none⟩) (by show w.heap.size < _; omega)).trans bd00_25
  clear bd00_25
  have bd01_26 := (hb.cell (p := ⟨w.heap.size, 1, none⟩) (by show w.heap.size < _; omega)).trans bd01_25
  clear bd01_25
  have bw00_26 := (hb.cell (p := ⟨w5.heap.size, 0, none⟩) (by show w5.heap.size < _; omega)).trans bw00_25
  clear bw00_25
  have bw01_26 := (hb.cell (p := ⟨w5.heap.size, 1, none⟩) (by show w5.heap.size < _; omega)).trans bw01_25
  clear bw01_25
  have bx00_26 := (hb.cell (p := ⟨w7.heap.size, 0, none⟩) (by show w7.heap.size < _; omega)).trans bx00_25
  clear bx00_25
  have bx01_26 := (hb.cell (p := ⟨w7.heap.size, 1, none⟩) (by show w7.heap.size < _; omega)).trans bx01_25
  clear bx01_25
  have bg00_26 := (hb.cell (p := ⟨w10.heap.size, 0, none⟩) (by show w10.heap.size < _; omega)).trans bg00_25
  clear bg00_25
  have bg01_26 := (hb.cell (p := ⟨w10.heap.size, 1, none⟩) (by show w10.heap.size < _; omega)).trans bg01_25
  clear bg01_25
  have bh00_26 := (hb.cell (p := ⟨w23.heap.size, 0, none⟩) (by show w23.heap.size < _; omega)).trans bh00_25
  clear bh00_25
  have bh01_26 := (hb.cell (p := ⟨w23.heap.size, 1, none⟩) (by show w23.heap.size < _; omega)).trans bh01_25
  clear bh01_25
  clear hb
  go_wp2
  go_ret
  exact ⟨rfl, B26⟩

theorem walk (w : World) (x0 : Int) (hb0 : -9223372036854775808 ≤ x0 ∧ x0 ≤ 9223372036854775807) (A0 : Option Addr) (n0 c0 : Nat) (R0 : Spine) (xs0 : List (List Int)) (hr0 : RdM w A0 c0 R0 xs0) (hn0 : xs0.length = n0) (hw0 : WfM xs0) (A1 : Option Addr) (n1 c1 : Nat) (xs1 : List Int) (hr1 : RdI w A1 c1 xs1) (hn1 : xs1.length = n1) (hw1 : WfL xs1) :
    Calls Tryz.prog 4 #[.agg #[.int .i64 x0, .slice A0 n0 c0], .slice A1 n1 c1] w fun e w' => e = .returned (.bool true) ∧ Below w.heap.size w w' := by
  rcases Int.lt_or_le 1048576 ((n1 : Int)) with h1 | h1
  · exact walkOut1 w x0 hb0 A0 n0 c0 R0 xs0 hr0 hn0 hw0 A1 n1 c1 xs1 hr1 hn1 hw1  h1
  rcases Int.lt_or_le 1048576 (((n0 : Int) + (tot xs0 : Nat))) with h0 | h0
  · exact walkOut0 w x0 hb0 A0 n0 c0 R0 xs0 hr0 hn0 hw0 A1 n1 c1 xs1 hr1 hn1 hw1 h1 h0
  exact walkIn w x0 hb0 A0 n0 c0 R0 xs0 hr0 hn0 hw0 A1 n1 c1 xs1 hr1 hn1 hw1 h1 h0

set_option maxRecDepth 100000 in
theorem lifted (os : Os) (started : os.Started) (H : Type) (enc : TypeId × Value → H) :
    ReturnsInHanded {} Tryz.checked os 4 .any (Rows.fnExactSwitchPaschSpec.pre6 enc Tryz.prog Tryz.f4 Rows.fnExactSwitchPaschRow.domain false) (Rows.fnExactSwitchPaschSpec.post enc Tryz.prog Tryz.f4 false true false false) := by
  refine returnsInHanded_of_change (C := Tryz.checked) own started (by kernel_rfl) Tryz.func4
    (ChangeSpec.witness6 (enc := enc) (C := Tryz.checked) false ⟨#[], #[.agg #[.int .i64 0, .slice none 0 0], .slice none 0 0], []⟩ 8 (by kernel_rfl) (by kernel_rfl) (by kernel_rfl) (by kernel_rfl)) ?_
  intro W base args ds gs before hval0 hW hcnd _
  have hval : ∀ (j : Nat) t v, Tryz.f4.params[j]? = some t → args[j]? = some v → Value.okWide Tryz.prog W .any base t v := hval0
  have hW' := hW
  obtain ⟨p, q, hA0, hV, rfl, hfz, hnd⟩ := hW
  have hA : DataW.TrodAll enc Tryz.prog W 0 (fun _ => true) true Tryz.f4.params.toList args.toList ds p := hA0
  rw [Tryz.params4] at hA hval
  obtain ⟨v0, vs0, d0, ds0, p0, q0, hargs, rfl, rfl, h0, r0⟩ := trodAll_cons hA
  obtain ⟨v1, vs1, d1, ds1, p1, q1, rfl, rfl, rfl, h1, r1⟩ := trodAll_cons r0
  obtain ⟨rfl, rfl, rfl⟩ := trodAll_nil r1
  obtain rfl : args = #[v0, v1] := by cases args; simp_all
  obtain ⟨rfl, rfl⟩ := trodVars_none hV
  have k0 := h0
  obtain ⟨x0, A0, n0, c0, R0, xs0, rfl, hb0, hr0, hn0, hw0⟩ := open_D (hval 0 24 v0 rfl rfl) h0
  have lt0 : ∀ x ∈ p0, x.block < W.heap.size := by obtain ⟨m, hm⟩ := k0; exact DataW.trod_lt m _ _ _ hm
  obtain ⟨A1, n1, c1, rfl⟩ := okWide_slice Tryz.underlying35 (hval 1 35 v1 rfl rfl)
  have k1 := h1
  have lt1 : ∀ x ∈ p1, x.block < W.heap.size := by obtain ⟨m, hm⟩ := k1; exact DataW.trod_lt m _ _ _ hm
  obtain ⟨xs1, hr1, hn1, hw1⟩ := open_S h1
  clear hA0 hval0
  refine (walk W x0 hb0 A0 n0 c0 R0 xs0 hr0 hn0 hw0 A1 n1 c1 xs1 hr1 hn1 hw1).mono fun e W' ⟨he, bel⟩ => ?_
  subst he
  exact ⟨_, rfl, _, _, _, [], _, [], hW', trodAll_mk1 (shut_bool Tryz.underlying4 _), (trodAll_cons_mk (Below.trod laidOut (by kernel_rfl) (of_decide_eq_true (by kernel_rfl)) k0 bel lt0) (trodAll_cons_mk (Below.trod laidOut (by kernel_rfl) (of_decide_eq_true (by kernel_rfl)) k1 bel lt1) trodAll_mk0)), rfl, bel.frame _, fun h => by cases h⟩

theorem over : Rows.fnExactSwitchPaschRow.holds Tryz.pinned (OpenSpec.ofChange Rows.fnExactSwitchPaschSpec) :=
  OpenClaim.holds_of_wide 4 Tryz.f4 rfl rfl rfl rfl rfl rfl rfl ⟨rfl, rfl, rfl, rfl, rfl⟩ rfl rfl rfl rfl rfl (by kernel_rfl) Tryz.func4 (by kernel_rfl)
    (of_decide_eq_true (by kernel_rfl)) (by unfold Func.isWrapper; first | (rw [if_pos (by decide +kernel)]; kernel_rfl) | (rw [if_neg (by decide +kernel)]; exact ⟨rfl, rfl⟩))
    (fun os started H enc _ => lifted os started H enc)

/-- The statement. -/
theorem proved : Rows.FnExactSwitchPaschSaid := over
#print axioms proved
end Go.Proofs.YtmmkmkbpgcbehaaGreat.lawSwitchPasch
