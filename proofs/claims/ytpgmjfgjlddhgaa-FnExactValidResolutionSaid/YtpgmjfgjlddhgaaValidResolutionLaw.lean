/-
  The program's ValidResolution returns what the reference's returns: the statement FnExactValidResolutionSaid. Conditions: none.
-/
import Derived.Test.YtpgmjfgjlddhgaaRows
import Derived.Test.YtpgmjfgjlddhgaaRes2
import Derived.Test.YtpgmjfgjlddhgaaDFrame
import Derived.Test.YtpgmjfgjlddhgaaDsg
import Derived.Deep.RegionHeld3
namespace Go.Proofs.Ytpgmjfgjlddhgaa.lawValidResolution
open Go.ChangeShapes Go.WideShapes Go.ChangeAt Go.RowKit Go.Deep
set_option linter.unusedVariables false
set_option linter.unusedSimpArgs false

theorem own : ownKnob Try.prog.godebug = none := by kernel_rfl
theorem laidOut : laidOutB Try.prog = true := by kernel_rfl

set_option maxHeartbeats 400000 in
theorem walkOut0 (w : World) (x0 : Int) (hb0 : -9223372036854775808 ≤ x0 ∧ x0 ≤ 9223372036854775807) (A0 : Option Addr) (n0 c0 : Nat) (R0 : Spine) (xs0 : List (List Int)) (hr0 : RdM w A0 c0 R0 xs0) (hn0 : xs0.length = n0) (hw0 : WfM xs0) (A1 : Option Addr) (n1 c1 : Nat) (R1 : Spine) (xs1 : List (List Int)) (hr1 : RdM w A1 c1 R1 xs1) (hn1 : xs1.length = n1) (hw1 : WfM xs1) (hz : 1048576 < ((n0 : Int) + (tot xs0 : Nat))) :
    Calls Try.prog 13 #[.agg #[.int .i64 x0, .slice A0 n0 c0], .slice A1 n1 c1] w fun e w' => e = .returned (.bool true) ∧ Below w.heap.size w w' := by
  have HR0 := Lib.hid hr0
  have HN0 := Lib.hid hn0
  have hm0 : n0 ≤ 9223372036854775807 := by have h1 := hr0.le; have h2 := hr0.cap; unfold maxLen at h2; omega
  clear hr0 hn0
  have HR1 := Lib.hid hr1
  have HN1 := Lib.hid hn1
  have hm1 : n1 ≤ 9223372036854775807 := by have h1 := hr1.le; have h2 := hr1.cap; unfold maxLen at h2; omega
  clear hr1 hn1
  go_enter Try.func13, Try.ntmps13
  go_wp2_with fail
  have hb : Below w.heap.size w (w.alloc (.cells #[.int .i64 x0, .slice A0 n0 c0] 24)) := (below_boxed _ _)
  have qd0 : w.heap.size < (w.alloc (.cells #[.int .i64 x0, .slice A0 n0 c0] 24)).heap.size := by simp <;> omega
  have bd00_1 : (w.alloc (.cells #[.int .i64 x0, .slice A0 n0 c0] 24)).cell? ⟨w.heap.size, 0, none⟩ = some (.int .i64 x0) := by simp [go_sem]
  have bd01_1 : (w.alloc (.cells #[.int .i64 x0, .slice A0 n0 c0] 24)).cell? ⟨w.heap.size, 1, none⟩ = some (.slice A0 n0 c0) := by simp [go_sem]
  generalize (w.alloc (.cells #[.int .i64 x0, .slice A0 n0 c0] 24)) = w1 at *
  have z1 : w.heap.size ≤ w1.heap.size := hb.size
  have B1 : Below w.heap.size w w1 := (hb.mono (by omega))
  clear hb
  go_wp2_with fail
  refine (szD_out w1 x0 A0 n0 c0 R0 xs0 (1048576) ((HR0.out).below B1) (HN0.out) (by omega) (by omega) (by omega)).mono ?_
  rintro e w2 ⟨rfl, hb⟩
  have z2 : w1.heap.size ≤ w2.heap.size := hb.size
  have B2 : Below w.heap.size w w2 := B1.trans (hb.mono (by omega))
  have bd00_2 := (hb.cell (p := ⟨w.heap.size, 0, none⟩) (by show w.heap.size < _; omega)).trans bd00_1
  clear bd00_1
  have bd01_2 := (hb.cell (p := ⟨w.heap.size, 1, none⟩) (by show w.heap.size < _; omega)).trans bd01_1
  clear bd01_1
  clear hb
  go_wp2
  go_ret
  exact ⟨rfl, B2⟩

set_option maxHeartbeats 400000 in
theorem walkOut1 (w : World) (x0 : Int) (hb0 : -9223372036854775808 ≤ x0 ∧ x0 ≤ 9223372036854775807) (A0 : Option Addr) (n0 c0 : Nat) (R0 : Spine) (xs0 : List (List Int)) (hr0 : RdM w A0 c0 R0 xs0) (hn0 : xs0.length = n0) (hw0 : WfM xs0) (A1 : Option Addr) (n1 c1 : Nat) (R1 : Spine) (xs1 : List (List Int)) (hr1 : RdM w A1 c1 R1 xs1) (hn1 : xs1.length = n1) (hw1 : WfM xs1) (hz0 : ((n0 : Int) + (tot xs0 : Nat)) ≤ 1048576) (hz : 1048576 < ((n0 : Int) + (tot xs0 : Nat)) + ((n1 : Int) + (tot xs1 : Nat))) :
    Calls Try.prog 13 #[.agg #[.int .i64 x0, .slice A0 n0 c0], .slice A1 n1 c1] w fun e w' => e = .returned (.bool true) ∧ Below w.heap.size w w' := by
  have HR0 := Lib.hid hr0
  have HN0 := Lib.hid hn0
  have hm0 : n0 ≤ 9223372036854775807 := by have h1 := hr0.le; have h2 := hr0.cap; unfold maxLen at h2; omega
  clear hr0 hn0
  have HR1 := Lib.hid hr1
  have HN1 := Lib.hid hn1
  have hm1 : n1 ≤ 9223372036854775807 := by have h1 := hr1.le; have h2 := hr1.cap; unfold maxLen at h2; omega
  clear hr1 hn1
  go_enter Try.func13, Try.ntmps13
  go_wp2_with fail
  have hb : Below w.heap.size w (w.alloc (.cells #[.int .i64 x0, .slice A0 n0 c0] 24)) := (below_boxed _ _)
  have qd0 : w.heap.size < (w.alloc (.cells #[.int .i64 x0, .slice A0 n0 c0] 24)).heap.size := by simp <;> omega
  have bd00_1 : (w.alloc (.cells #[.int .i64 x0, .slice A0 n0 c0] 24)).cell? ⟨w.heap.size, 0, none⟩ = some (.int .i64 x0) := by simp [go_sem]
  have bd01_1 : (w.alloc (.cells #[.int .i64 x0, .slice A0 n0 c0] 24)).cell? ⟨w.heap.size, 1, none⟩ = some (.slice A0 n0 c0) := by simp [go_sem]
  generalize (w.alloc (.cells #[.int .i64 x0, .slice A0 n0 c0] 24)) = w1 at *
  have z1 : w.heap.size ≤ w1.heap.size := hb.size
  have B1 : Below w.heap.size w w1 := (hb.mono (by omega))
  clear hb
  go_wp2_with fail
  refine (szD_in w1 x0 A0 n0 c0 R0 xs0 (1048576) ((HR0.out).below B1) (HN0.out) (by omega) (by omega)).mono ?_
  rintro e w2 ⟨rfl, hb⟩
  have z2 : w1.heap.size ≤ w2.heap.size := hb.size
  have B2 : Below w.heap.size w w2 := B1.trans (hb.mono (by omega))
  have bd00_2 := (hb.cell (p := ⟨w.heap.size, 0, none⟩) (by show w.heap.size < _; omega)).trans bd00_1
  clear bd00_1
  have bd01_2 := (hb.cell (p := ⟨w.heap.size, 1, none⟩) (by show w.heap.size < _; omega)).trans bd01_1
  clear bd01_1
  clear hb
  go_wp2_with fail
  refine (szSS_out _ A1 n1 c1 xs1 (1048576 - (n0 : Int) - ((tot xs0 : Nat) : Int)) ((HN1.out) ▸ ((HR1.out).below B2).atL) (HN1.out) (by omega) (by omega) (by omega) (by omega)).mono ?_
  rintro e w' ⟨rfl, rfl⟩
  go_wp2
  go_ret
  exact ⟨rfl, B2⟩

set_option maxHeartbeats 4000000 in
set_option maxRecDepth 100000 in
theorem walkIn (w : World) (x0 : Int) (hb0 : -9223372036854775808 ≤ x0 ∧ x0 ≤ 9223372036854775807) (A0 : Option Addr) (n0 c0 : Nat) (R0 : Spine) (xs0 : List (List Int)) (hr0 : RdM w A0 c0 R0 xs0) (hn0 : xs0.length = n0) (hw0 : WfM xs0) (A1 : Option Addr) (n1 c1 : Nat) (R1 : Spine) (xs1 : List (List Int)) (hr1 : RdM w A1 c1 R1 xs1) (hn1 : xs1.length = n1) (hw1 : WfM xs1) (hz0 : ((n0 : Int) + (tot xs0 : Nat)) ≤ 1048576) (hz1 : ((n0 : Int) + (tot xs0 : Nat)) + ((n1 : Int) + (tot xs1 : Nat)) ≤ 1048576) :
    Calls Try.prog 13 #[.agg #[.int .i64 x0, .slice A0 n0 c0], .slice A1 n1 c1] w fun e w' => e = .returned (.bool true) ∧ Below w.heap.size w w' := by
  have HT0 : tot xs0 ≤ 1048576 := by omega
  have HT1 : tot xs1 ≤ 1048576 := by omega
  have HR0 := Lib.hid hr0
  have HN0 := Lib.hid hn0
  have hm0 : n0 ≤ 9223372036854775807 := by have h1 := hr0.le; have h2 := hr0.cap; unfold maxLen at h2; omega
  clear hr0 hn0
  have HR1 := Lib.hid hr1
  have HN1 := Lib.hid hn1
  have hm1 : n1 ≤ 9223372036854775807 := by have h1 := hr1.le; have h2 := hr1.cap; unfold maxLen at h2; omega
  clear hr1 hn1
  go_enter Try.func13, Try.ntmps13
  go_wp2_with fail
  have hb : Below w.heap.size w (w.alloc (.cells #[.int .i64 x0, .slice A0 n0 c0] 24)) := (below_boxed _ _)
  have qd0 : w.heap.size < (w.alloc (.cells #[.int .i64 x0, .slice A0 n0 c0] 24)).heap.size := by simp <;> omega
  have bd00_1 : (w.alloc (.cells #[.int .i64 x0, .slice A0 n0 c0] 24)).cell? ⟨w.heap.size, 0, none⟩ = some (.int .i64 x0) := by simp [go_sem]
  have bd01_1 : (w.alloc (.cells #[.int .i64 x0, .slice A0 n0 c0] 24)).cell? ⟨w.heap.size, 1, none⟩ = some (.slice A0 n0 c0) := by simp [go_sem]
  generalize (w.alloc (.cells #[.int .i64 x0, .slice A0 n0 c0] 24)) = w1 at *
  have z1 : w.heap.size ≤ w1.heap.size := hb.size
  have B1 : Below w.heap.size w w1 := (hb.mono (by omega))
  clear hb
  go_wp2_with fail
  refine (szD_in w1 x0 A0 n0 c0 R0 xs0 (1048576) ((HR0.out).below B1) (HN0.out) (by omega) (by omega)).mono ?_
  rintro e w2 ⟨rfl, hb⟩
  have z2 : w1.heap.size ≤ w2.heap.size := hb.size
  have B2 : Below w.heap.size w w2 := B1.trans (hb.mono (by omega))
  have bd00_2 := (hb.cell (p := ⟨w.heap.size, 0, none⟩) (by show w.heap.size < _; omega)).trans bd00_1
  clear bd00_1
  have bd01_2 := (hb.cell (p := ⟨w.heap.size, 1, none⟩) (by show w.heap.size < _; omega)).trans bd01_1
  clear bd01_1
  clear hb
  go_wp2_with fail
  refine (szSS_in _ A1 n1 c1 xs1 (1048576 - (n0 : Int) - ((tot xs0 : Nat) : Int)) ((HN1.out) ▸ ((HR1.out).below B2).atL) (HN1.out) (by omega) (by omega)).mono ?_
  rintro e w' ⟨rfl, rfl⟩
  go_wp2_with fail
  refine (toD w2 x0 A0 n0 c0 R0 xs0 ((HR0.out).below B2) (HN0.out) (by omega) (fun k hk => by have := row_small HT0 k (by rw [HN0.out]; exact hk); omega)).mono ?_
  rintro e w3 ⟨⟨p0A, p0R, rfl, ho⟩, hb⟩
  have z3 : w2.heap.size ≤ w3.heap.size := hb.size
  have B3 : Below w.heap.size w w3 := B2.trans (hb.mono (by omega))
  have bd00_3 := (hb.cell (p := ⟨w.heap.size, 0, none⟩) (by show w.heap.size < _; omega)).trans bd00_2
  clear bd00_2
  have bd01_3 := (hb.cell (p := ⟨w.heap.size, 1, none⟩) (by show w.heap.size < _; omega)).trans bd01_2
  clear bd01_2
  clear hb
  have p0_3 := Lib.hid ho.in_
  clear ho
  go_wp2_with fail
  refine (toSS w3 A1 n1 c1 R1 xs1 ((HR1.out).below B3) (HN1.out) (by omega) (fun k hk => by have := row_small HT1 k (by rw [HN1.out]; exact hk); omega)).mono ?_
  rintro e w4 ⟨⟨p1A, p1R, rfl, ho⟩, hb⟩
  have z4 : w3.heap.size ≤ w4.heap.size := hb.size
  have B4 : Below w.heap.size w w4 := B3.trans (hb.mono (by omega))
  have p0_4 := Lib.hid (p0_3.out.step (w' := w4) (fun k h1 h2 => hb.block k (by omega)))
  clear p0_3
  have bd00_4 := (hb.cell (p := ⟨w.heap.size, 0, none⟩) (by show w.heap.size < _; omega)).trans bd00_3
  clear bd00_3
  have bd01_4 := (hb.cell (p := ⟨w.heap.size, 1, none⟩) (by show w.heap.size < _; omega)).trans bd01_3
  clear bd01_3
  clear hb
  have p1_4 := Lib.hid ho.in_
  clear ho
  go_wp2_with fail
  refine (specValidResolution_c w4 x0 hb0 p0A n0 n0 p0R xs0 p0_4.out.own.rd (HN0.out) hw0 (by omega) p1A n1 n1 p1R xs1 p1_4.out.own.rd (HN1.out) hw1 (by omega) p1_4.out.own.nilCap).mono ?_
  rintro e w5 ⟨rfl, hb⟩
  have z5 : w4.heap.size ≤ w5.heap.size := hb.size
  have B5 : Below w.heap.size w w5 := B4.trans (hb.mono (by omega))
  have p0_5 := Lib.hid (p0_4.out.step (w' := w5) (fun k h1 h2 => hb.block k (by omega)))
  clear p0_4
  have p1_5 := Lib.hid (p1_4.out.step (w' := w5) (fun k h1 h2 => hb.block k (by omega)))
  clear p1_4
  have bd00_5 := (hb.cell (p := ⟨w.heap.size, 0, none⟩) (by show w.heap.size < _; omega)).trans bd00_4
  clear bd00_4
  have bd01_5 := (hb.cell (p := ⟨w.heap.size, 1, none⟩) (by show w.heap.size < _; omega)).trans bd01_4
  clear bd01_4
  clear hb
  go_wp2_with fail
  refine (toD w5 x0 A0 n0 c0 R0 xs0 ((HR0.out).below B5) (HN0.out) (by omega) (fun k hk => by have := row_small HT0 k (by rw [HN0.out]; exact hk); omega)).mono ?_
  rintro e w6 ⟨⟨x0A, x0R, rfl, ho⟩, hb⟩
  have z6 : w5.heap.size ≤ w6.heap.size := hb.size
  have B6 : Below w.heap.size w w6 := B5.trans (hb.mono (by omega))
  have p0_6 := Lib.hid (p0_5.out.step (w' := w6) (fun k h1 h2 => hb.block k (by omega)))
  clear p0_5
  have p1_6 := Lib.hid (p1_5.out.step (w' := w6) (fun k h1 h2 => hb.block k (by omega)))
  clear p1_5
  have bd00_6 := (hb.cell (p := ⟨w.heap.size, 0, none⟩) (by show w.heap.size < _; omega)).trans bd00_5
  clear bd00_5
  have bd01_6 := (hb.cell (p := ⟨w.heap.size, 1, none⟩) (by show w.heap.size < _; omega)).trans bd01_5
  clear bd01_5
  clear hb
  have x0_6 := Lib.hid ho.in_
  clear ho
  go_wp2_with fail
  have hb : Below w6.heap.size w6 (w6.alloc (.cells #[.int .i64 x0, .slice x0A n0 n0] 28)) := below_boxed _ _
  have qx0 : w6.heap.size < (w6.alloc (.cells #[.int .i64 x0, .slice x0A n0 n0] 28)).heap.size := by simp
  have bx00_7 : (w6.alloc (.cells #[.int .i64 x0, .slice x0A n0 n0] 28)).cell? ⟨w6.heap.size, 0, none⟩ = some (.int .i64 x0) := by simp [go_sem]
  have bx01_7 : (w6.alloc (.cells #[.int .i64 x0, .slice x0A n0 n0] 28)).cell? ⟨w6.heap.size, 1, none⟩ = some (.slice x0A n0 n0) := by simp [go_sem]
  generalize (w6.alloc (.cells #[.int .i64 x0, .slice x0A n0 n0] 28)) = w7 at *
  have z7 : w6.heap.size ≤ w7.heap.size := hb.size
  have B7 : Below w.heap.size w w7 := B6.trans (hb.mono (by omega))
  have p0_7 := Lib.hid (p0_6.out.step (w' := w7) (fun k h1 h2 => hb.block k (by omega)))
  clear p0_6
  have p1_7 := Lib.hid (p1_6.out.step (w' := w7) (fun k h1 h2 => hb.block k (by omega)))
  clear p1_6
  have x0_7 := Lib.hid (x0_6.out.step (w' := w7) (fun k h1 h2 => hb.block k (by omega)))
  clear x0_6
  have bd00_7 := (hb.cell (p := ⟨w.heap.size, 0, none⟩) (by show w.heap.size < _; omega)).trans bd00_6
  clear bd00_6
  have bd01_7 := (hb.cell (p := ⟨w.heap.size, 1, none⟩) (by show w.heap.size < _; omega)).trans bd01_6
  clear bd01_6
  clear hb
  go_wp2_with fail
  refine (toSS w7 A1 n1 c1 R1 xs1 ((HR1.out).below B7) (HN1.out) (by omega) (fun k hk => by have := row_small HT1 k (by rw [HN1.out]; exact hk); omega)).mono ?_
  rintro e w8 ⟨⟨x1A, x1R, rfl, ho⟩, hb⟩
  have z8 : w7.heap.size ≤ w8.heap.size := hb.size
  have B8 : Below w.heap.size w w8 := B7.trans (hb.mono (by omega))
  have p0_8 := Lib.hid (p0_7.out.step (w' := w8) (fun k h1 h2 => hb.block k (by omega)))
  clear p0_7
  have p1_8 := Lib.hid (p1_7.out.step (w' := w8) (fun k h1 h2 => hb.block k (by omega)))
  clear p1_7
  have x0_8 := Lib.hid (x0_7.out.step (w' := w8) (fun k h1 h2 => hb.block k (by omega)))
  clear x0_7
  have bd00_8 := (hb.cell (p := ⟨w.heap.size, 0, none⟩) (by show w.heap.size < _; omega)).trans bd00_7
  clear bd00_7
  have bd01_8 := (hb.cell (p := ⟨w.heap.size, 1, none⟩) (by show w.heap.size < _; omega)).trans bd01_7
  clear bd01_7
  have bx00_8 := (hb.cell (p := ⟨w6.heap.size, 0, none⟩) (by show w6.heap.size < _; omega)).trans bx00_7
  clear bx00_7
  have bx01_8 := (hb.cell (p := ⟨w6.heap.size, 1, none⟩) (by show w6.heap.size < _; omega)).trans bx01_7
  clear bx01_7
  clear hb
  have x1_8 := Lib.hid ho.in_
  clear ho
  go_wp2_with fail
  refine (implValidResolution_c w8 x0 hb0 x0A n0 n0 x0R xs0 x0_8.out.own.rd (HN0.out) hw0 (by omega) x1A n1 n1 x1R xs1 x1_8.out.own.rd (HN1.out) hw1 (by omega) x1_8.out.own.nilCap).mono ?_
  rintro e w9 ⟨rfl, hb⟩
  have z9 : w8.heap.size ≤ w9.heap.size := hb.size
  have B9 : Below w.heap.size w w9 := B8.trans (hb.mono (by omega))
  have p0_9 := Lib.hid (p0_8.out.step (w' := w9) (fun k h1 h2 => hb.block k (by omega)))
  clear p0_8
  have p1_9 := Lib.hid (p1_8.out.step (w' := w9) (fun k h1 h2 => hb.block k (by omega)))
  clear p1_8
  have x0_9 := Lib.hid (x0_8.out.step (w' := w9) (fun k h1 h2 => hb.block k (by omega)))
  clear x0_8
  have x1_9 := Lib.hid (x1_8.out.step (w' := w9) (fun k h1 h2 => hb.block k (by omega)))
  clear x1_8
  have bd00_9 := (hb.cell (p := ⟨w.heap.size, 0, none⟩) (by show w.heap.size < _; omega)).trans bd00_8
  clear bd00_8
  have bd01_9 := (hb.cell (p := ⟨w.heap.size, 1, none⟩) (by show w.heap.size < _; omega)).trans bd01_8
  clear bd01_8
  have bx00_9 := (hb.cell (p := ⟨w6.heap.size, 0, none⟩) (by show w6.heap.size < _; omega)).trans bx00_8
  clear bx00_8
  have bx01_9 := (hb.cell (p := ⟨w6.heap.size, 1, none⟩) (by show w6.heap.size < _; omega)).trans bx01_8
  clear bx01_8
  clear hb
  go_wp2_with fail
  have HE := Lib.hid (fun (w' : World) (hb : Below w9.heap.size w9 w') => toD w' x0 A0 n0 c0 R0 xs0 ((HR0.out).below (B9.trans (hb.mono (by omega)))) (HN0.out) (by omega) (fun k hk => by have := row_small HT0 k (by rw [HN0.out]; exact hk); omega))
  have ck0 := Lib.hid (fun (w' : World) (hb : Below w9.heap.size w9 w') => (hb.cell (p := ⟨w.heap.size, 0, none⟩) (by show w.heap.size < w9.heap.size; omega)).trans bd00_9)
  have ck1 := Lib.hid (fun (w' : World) (hb : Below w9.heap.size w9 w') => (hb.cell (p := ⟨w.heap.size, 1, none⟩) (by show w.heap.size < w9.heap.size; omega)).trans bd01_9)
  have ck2 := Lib.hid (fun (w' : World) (hb : Below w9.heap.size w9 w') => (hb.cell (p := ⟨w6.heap.size, 0, none⟩) (by show w6.heap.size < w9.heap.size; omega)).trans bx00_9)
  have ck3 := Lib.hid (fun (w' : World) (hb : Below w9.heap.size w9 w') => (hb.cell (p := ⟨w6.heap.size, 1, none⟩) (by show w6.heap.size < w9.heap.size; omega)).trans bx01_9)
  have hS := Lib.hid (Below.refl w9.heap.size w9)
  go_region_held3 (fun w' => Below w9.heap.size w9 w' ∧ w'.cell? ⟨w.heap.size, 0, none⟩ = some (.int .i64 x0) ∧ w'.cell? ⟨w.heap.size, 1, none⟩ = some (.slice A0 n0 c0) ∧ w'.cell? ⟨w6.heap.size, 0, none⟩ = some (.int .i64 x0) ∧ w'.cell? ⟨w6.heap.size, 1, none⟩ = some (.slice x0A n0 n0)) (first | exact ⟨hS.out, ck0.out _ hS.out, ck1.out _ hS.out, ck2.out _ hS.out, ck3.out _ hS.out⟩ | exact ⟨below_drewN hS.out 1, ck0.out _ (below_drewN hS.out 1), ck1.out _ (below_drewN hS.out 1), ck2.out _ (below_drewN hS.out 1), ck3.out _ (below_drewN hS.out 1)⟩)
    (first
      | (go_at_call 17; refine (HE.out _ (below_drewN hS.out 1)).mono ?_; rintro e wy ⟨⟨yA, yR, rfl, ho⟩, hb⟩; have hy := Lib.hid ho; have hS := Lib.hid ((below_drewN hS.out 1).trans (hb.mono hS.out.size)); have h1y := Lib.hid hb; clear ho hb)
      | (go_at_call 20; refine (eqD_v _ x0 (x0_9.out.step (w' := wy) (fun k h1 h2 => hS.out.block k (by omega))).own.rd hy.out.rd (HN0.out) (by have := HN0.out; omega) (fun k hk => by have := row_small HT0 k hk; omega)).mono ?_; rintro e w10 ⟨rfl, hb⟩; have hS1 := hS; have hS := Lib.hid (hS1.out.trans (hb.mono hS1.out.size)); clear hb))
  have hb := hS.out
  clear hS HE hy h1y ck0 ck1 ck2 ck3
  have z10 : w9.heap.size ≤ w10.heap.size := hb.size
  have B10 : Below w.heap.size w w10 := B9.trans (hb.mono (by omega))
  have p0_10 := Lib.hid (p0_9.out.step (w' := w10) (fun k h1 h2 => hb.block k (by omega)))
  clear p0_9
  have p1_10 := Lib.hid (p1_9.out.step (w' := w10) (fun k h1 h2 => hb.block k (by omega)))
  clear p1_9
  have x0_10 := Lib.hid (x0_9.out.step (w' := w10) (fun k h1 h2 => hb.block k (by omega)))
  clear x0_9
  have x1_10 := Lib.hid (x1_9.out.step (w' := w10) (fun k h1 h2 => hb.block k (by omega)))
  clear x1_9
  have bd00_10 := (hb.cell (p := ⟨w.heap.size, 0, none⟩) (by show w.heap.size < _; omega)).trans bd00_9
  clear bd00_9
  have bd01_10 := (hb.cell (p := ⟨w.heap.size, 1, none⟩) (by show w.heap.size < _; omega)).trans bd01_9
  clear bd01_9
  have bx00_10 := (hb.cell (p := ⟨w6.heap.size, 0, none⟩) (by show w6.heap.size < _; omega)).trans bx00_9
  clear bx00_9
  have bx01_10 := (hb.cell (p := ⟨w6.heap.size, 1, none⟩) (by show w6.heap.size < _; omega)).trans bx01_9
  clear bx01_9
  clear hb
  go_wp2_with fail
  refine (toSS w10 A1 n1 c1 R1 xs1 ((HR1.out).below B10) (HN1.out) (by omega) (fun k hk => by have := row_small HT1 k (by rw [HN1.out]; exact hk); omega)).mono ?_
  rintro e w11 ⟨⟨y1A, y1R, rfl, ho⟩, hb⟩
  have z11 : w10.heap.size ≤ w11.heap.size := hb.size
  have B11 : Below w.heap.size w w11 := B10.trans (hb.mono (by omega))
  have p0_11 := Lib.hid (p0_10.out.step (w' := w11) (fun k h1 h2 => hb.block k (by omega)))
  clear p0_10
  have p1_11 := Lib.hid (p1_10.out.step (w' := w11) (fun k h1 h2 => hb.block k (by omega)))
  clear p1_10
  have x0_11 := Lib.hid (x0_10.out.step (w' := w11) (fun k h1 h2 => hb.block k (by omega)))
  clear x0_10
  have x1_11 := Lib.hid (x1_10.out.step (w' := w11) (fun k h1 h2 => hb.block k (by omega)))
  clear x1_10
  have bd00_11 := (hb.cell (p := ⟨w.heap.size, 0, none⟩) (by show w.heap.size < _; omega)).trans bd00_10
  clear bd00_10
  have bd01_11 := (hb.cell (p := ⟨w.heap.size, 1, none⟩) (by show w.heap.size < _; omega)).trans bd01_10
  clear bd01_10
  have bx00_11 := (hb.cell (p := ⟨w6.heap.size, 0, none⟩) (by show w6.heap.size < _; omega)).trans bx00_10
  clear bx00_10
  have bx01_11 := (hb.cell (p := ⟨w6.heap.size, 1, none⟩) (by show w6.heap.size < _; omega)).trans bx01_10
  clear bx01_10
  clear hb
  have y1_11 := Lib.hid ho.in_
  clear ho
  go_wp2_with fail
  refine (eqSS_v w11 x1_11.out.own.rd y1_11.out.own.rd (HN1.out) (by have := HN1.out; omega) (fun k hk => by have := row_small HT1 k hk; omega)).mono ?_
  rintro e w12 ⟨rfl, hb⟩
  have z12 : w11.heap.size ≤ w12.heap.size := hb.size
  have B12 : Below w.heap.size w w12 := B11.trans (hb.mono (by omega))
  have p0_12 := Lib.hid (p0_11.out.step (w' := w12) (fun k h1 h2 => hb.block k (by omega)))
  clear p0_11
  have p1_12 := Lib.hid (p1_11.out.step (w' := w12) (fun k h1 h2 => hb.block k (by omega)))
  clear p1_11
  have x0_12 := Lib.hid (x0_11.out.step (w' := w12) (fun k h1 h2 => hb.block k (by omega)))
  clear x0_11
  have x1_12 := Lib.hid (x1_11.out.step (w' := w12) (fun k h1 h2 => hb.block k (by omega)))
  clear x1_11
  have y1_12 := Lib.hid (y1_11.out.step (w' := w12) (fun k h1 h2 => hb.block k (by omega)))
  clear y1_11
  have bd00_12 := (hb.cell (p := ⟨w.heap.size, 0, none⟩) (by show w.heap.size < _; omega)).trans bd00_11
  clear bd00_11
  have bd01_12 := (hb.cell (p := ⟨w.heap.size, 1, none⟩) (by show w.heap.size < _; omega)).trans bd01_11
  clear bd01_11
  have bx00_12 := (hb.cell (p := ⟨w6.heap.size, 0, none⟩) (by show w6.heap.size < _; omega)).trans bx00_11
  clear bx00_11
  have bx01_12 := (hb.cell (p := ⟨w6.heap.size, 1, none⟩) (by show w6.heap.size < _; omega)).trans bx01_11
  clear bx01_11
  clear hb
  go_wp2
  go_ret
  exact ⟨rfl, B12⟩

theorem walk (w : World) (x0 : Int) (hb0 : -9223372036854775808 ≤ x0 ∧ x0 ≤ 9223372036854775807) (A0 : Option Addr) (n0 c0 : Nat) (R0 : Spine) (xs0 : List (List Int)) (hr0 : RdM w A0 c0 R0 xs0) (hn0 : xs0.length = n0) (hw0 : WfM xs0) (A1 : Option Addr) (n1 c1 : Nat) (R1 : Spine) (xs1 : List (List Int)) (hr1 : RdM w A1 c1 R1 xs1) (hn1 : xs1.length = n1) (hw1 : WfM xs1) :
    Calls Try.prog 13 #[.agg #[.int .i64 x0, .slice A0 n0 c0], .slice A1 n1 c1] w fun e w' => e = .returned (.bool true) ∧ Below w.heap.size w w' := by
  rcases Int.lt_or_le 1048576 (((n0 : Int) + (tot xs0 : Nat))) with h0 | h0
  · exact walkOut0 w x0 hb0 A0 n0 c0 R0 xs0 hr0 hn0 hw0 A1 n1 c1 R1 xs1 hr1 hn1 hw1  h0
  rcases Int.lt_or_le 1048576 (((n0 : Int) + (tot xs0 : Nat)) + ((n1 : Int) + (tot xs1 : Nat))) with h1 | h1
  · exact walkOut1 w x0 hb0 A0 n0 c0 R0 xs0 hr0 hn0 hw0 A1 n1 c1 R1 xs1 hr1 hn1 hw1 h0 h1
  exact walkIn w x0 hb0 A0 n0 c0 R0 xs0 hr0 hn0 hw0 A1 n1 c1 R1 xs1 hr1 hn1 hw1 h0 h1

set_option maxRecDepth 100000 in
theorem lifted (os : Os) (started : os.Started) (H : Type) (enc : TypeId × Value → H) :
    ReturnsInHanded {} Try.checked os 13 .any (Rows.fnExactValidResolutionSpec.pre6 enc Try.prog Try.f13 Rows.fnExactValidResolutionRow.domain false) (Rows.fnExactValidResolutionSpec.post enc Try.prog Try.f13 false true false false) := by
  refine returnsInHanded_of_change (C := Try.checked) own started (by kernel_rfl) Try.func13
    (ChangeSpec.witness6 (enc := enc) (C := Try.checked) false ⟨#[], #[.agg #[.int .i64 0, .slice none 0 0], .slice none 0 0], []⟩ 8 (by kernel_rfl) (by kernel_rfl) (by kernel_rfl) (by kernel_rfl)) ?_
  intro W base args ds gs before hval0 hW hcnd _
  have hval : ∀ (j : Nat) t v, Try.f13.params[j]? = some t → args[j]? = some v → Value.okWide Try.prog W .any base t v := hval0
  have hW' := hW
  obtain ⟨p, q, hA0, hV, rfl, hfz, hnd⟩ := hW
  have hA : DataW.TrodAll enc Try.prog W 0 (fun _ => true) true Try.f13.params.toList args.toList ds p := hA0
  rw [Try.params13] at hA hval
  obtain ⟨v0, vs0, d0, ds0, p0, q0, hargs, rfl, rfl, h0, r0⟩ := trodAll_cons hA
  obtain ⟨v1, vs1, d1, ds1, p1, q1, rfl, rfl, rfl, h1, r1⟩ := trodAll_cons r0
  obtain ⟨rfl, rfl, rfl⟩ := trodAll_nil r1
  obtain rfl : args = #[v0, v1] := by cases args; simp_all
  obtain ⟨rfl, rfl⟩ := trodVars_none hV
  have k0 := h0
  obtain ⟨x0, A0, n0, c0, R0, xs0, rfl, hb0, hr0, hn0, hw0⟩ := open_D (hval 0 24 v0 rfl rfl) h0
  have lt0 : ∀ x ∈ p0, x.block < W.heap.size := by obtain ⟨m, hm⟩ := k0; exact DataW.trod_lt m _ _ _ hm
  obtain ⟨A1, n1, c1, rfl⟩ := okWide_slice Try.underlying22 (hval 1 22 v1 rfl rfl)
  have k1 := h1
  have lt1 : ∀ x ∈ p1, x.block < W.heap.size := by obtain ⟨m, hm⟩ := k1; exact DataW.trod_lt m _ _ _ hm
  obtain ⟨R1, xs1, hr1, hn1, hw1⟩ := open_M h1
  clear hA0 hval0
  refine (walk W x0 hb0 A0 n0 c0 R0 xs0 hr0 hn0 hw0 A1 n1 c1 R1 xs1 hr1 hn1 hw1).mono fun e W' ⟨he, bel⟩ => ?_
  subst he
  exact ⟨_, rfl, _, _, _, [], _, [], hW', trodAll_mk1 (shut_bool Try.underlying4 _), (trodAll_cons_mk (Below.trod laidOut (by kernel_rfl) (of_decide_eq_true (by kernel_rfl)) k0 bel lt0) (trodAll_cons_mk (Below.trod laidOut (by kernel_rfl) (of_decide_eq_true (by kernel_rfl)) k1 bel lt1) trodAll_mk0)), rfl, bel.frame _, fun h => by cases h⟩

theorem over : Rows.fnExactValidResolutionRow.holds Try.pinned (OpenSpec.ofChange Rows.fnExactValidResolutionSpec) :=
  OpenClaim.holds_of_wide 13 Try.f13 rfl rfl rfl rfl rfl rfl rfl ⟨rfl, rfl, rfl, rfl, rfl⟩ rfl rfl rfl rfl rfl (by kernel_rfl) Try.func13 (by kernel_rfl)
    (of_decide_eq_true (by kernel_rfl)) (by unfold Func.isWrapper; first | (rw [if_pos (by decide +kernel)]; kernel_rfl) | (rw [if_neg (by decide +kernel)]; exact ⟨rfl, rfl⟩))
    (fun os started H enc _ => lifted os started H enc)

/-- The statement. -/
theorem proved : Rows.FnExactValidResolutionSaid := over
#print axioms proved
end Go.Proofs.Ytpgmjfgjlddhgaa.lawValidResolution
