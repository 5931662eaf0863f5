/-
  The walk of the law FnExactProductTriples. Conditions: those of each theorem.
-/
import Derived.Test.YtamklliaibfljaaRows
import Derived.Test.YtamklliaibfljaaPrdI
import Derived.Test.YtamklliaibfljaaPrdS
import Derived.Test.YtamklliaibfljaaDFrame
import Derived.Test.YtamklliaibfljaaDsg
import Derived.Deep.RegionHeld3
namespace Go.Proofs.Ytamklliaibfljaa.lawProductTriples
open Go.ChangeShapes Go.WideShapes Go.ChangeAt Go.RowKit Go.Deep
set_option linter.unusedVariables false
set_option linter.unusedSimpArgs false

theorem own : ownKnob Try.prog.godebug = none := by kernel_rfl
theorem laidOut : laidOutB Try.prog = true := by kernel_rfl

set_option maxHeartbeats 400000 in
theorem walkOut0 (w : World) (x0 : Int) (hb0 : -9223372036854775808 ≤ x0 ∧ x0 ≤ 9223372036854775807) (A0 : Option Addr) (n0 c0 : Nat) (R0 : Spine) (xs0 : List (List Int)) (hr0 : RdM w A0 c0 R0 xs0) (hn0 : xs0.length = n0) (hw0 : WfM xs0) (x1 : Int) (hb1 : -9223372036854775808 ≤ x1 ∧ x1 ≤ 9223372036854775807) (A1 : Option Addr) (n1 c1 : Nat) (R1 : Spine) (xs1 : List (List Int)) (hr1 : RdM w A1 c1 R1 xs1) (hn1 : xs1.length = n1) (hw1 : WfM xs1) (hz : 1048576 < ((n0 : Int) + (tot xs0 : Nat))) :
    Calls Try.prog 5 #[.agg #[.int .i64 x0, .slice A0 n0 c0], .agg #[.int .i64 x1, .slice A1 n1 c1]] w fun e w' => e = .returned (.bool true) ∧ Below w.heap.size w w' := by
  have HR0 := Lib.hid hr0
  have HN0 := Lib.hid hn0
  have hm0 : n0 ≤ 9223372036854775807 := by have h1 := hr0.le; have h2 := hr0.cap; unfold maxLen at h2; omega
  clear hr0 hn0
  have HR1 := Lib.hid hr1
  have HN1 := Lib.hid hn1
  have hm1 : n1 ≤ 9223372036854775807 := by have h1 := hr1.le; have h2 := hr1.cap; unfold maxLen at h2; omega
  clear hr1 hn1
  go_enter Try.func5, Try.ntmps5
  go_wp2_with fail
  have hb : Below w.heap.size w ((w.alloc (.cells #[.int .i64 x0, .slice A0 n0 c0] 39)).alloc (.cells #[.int .i64 x1, .slice A1 n1 c1] 39)) := ((below_boxed _ _).alloc (by simp <;> omega) _)
  have qd0 : w.heap.size < ((w.alloc (.cells #[.int .i64 x0, .slice A0 n0 c0] 39)).alloc (.cells #[.int .i64 x1, .slice A1 n1 c1] 39)).heap.size := by simp <;> omega
  have bd00_1 : ((w.alloc (.cells #[.int .i64 x0, .slice A0 n0 c0] 39)).alloc (.cells #[.int .i64 x1, .slice A1 n1 c1] 39)).cell? ⟨w.heap.size, 0, none⟩ = some (.int .i64 x0) := by simp [go_sem]
  have bd01_1 : ((w.alloc (.cells #[.int .i64 x0, .slice A0 n0 c0] 39)).alloc (.cells #[.int .i64 x1, .slice A1 n1 c1] 39)).cell? ⟨w.heap.size, 1, none⟩ = some (.slice A0 n0 c0) := by simp [go_sem]
  have qd1 : w.heap.size + 1 < ((w.alloc (.cells #[.int .i64 x0, .slice A0 n0 c0] 39)).alloc (.cells #[.int .i64 x1, .slice A1 n1 c1] 39)).heap.size := by simp <;> omega
  have bd10_1 : ((w.alloc (.cells #[.int .i64 x0, .slice A0 n0 c0] 39)).alloc (.cells #[.int .i64 x1, .slice A1 n1 c1] 39)).cell? ⟨w.heap.size + 1, 0, none⟩ = some (.int .i64 x1) := by simp [go_sem]
  have bd11_1 : ((w.alloc (.cells #[.int .i64 x0, .slice A0 n0 c0] 39)).alloc (.cells #[.int .i64 x1, .slice A1 n1 c1] 39)).cell? ⟨w.heap.size + 1, 1, none⟩ = some (.slice A1 n1 c1) := by simp [go_sem]
  generalize ((w.alloc (.cells #[.int .i64 x0, .slice A0 n0 c0] 39)).alloc (.cells #[.int .i64 x1, .slice A1 n1 c1] 39)) = w1 at *
  have z1 : w.heap.size ≤ w1.heap.size := hb.size
  have B1 : Below w.heap.size w w1 := (hb.mono (by omega))
  clear hb
  go_wp2_with fail
  refine (szD_out w1 x0 A0 n0 c0 R0 xs0 (1048576) ((HR0.out).below B1) (HN0.out) (by omega) (by omega) (by omega)).mono ?_
  rintro e w2 ⟨rfl, hb⟩
  have z2 : w1.heap.size ≤ w2.heap.size := hb.size
  have B2 : Below w.heap.size w w2 := B1.trans (hb.mono (by omega))
  have bd00_2 := (hb.cell (p := ⟨w.heap.size, 0, none⟩) (by show w.heap.size < _; omega)).trans bd00_1
  clear bd00_1
  have bd01_2 := (hb.cell (p := ⟨w.heap.size, 1, none⟩) (by show w.heap.size < _; omega)).trans bd01_1
  clear bd01_1
  have bd10_2 := (hb.cell (p := ⟨w.heap.size + 1, 0, none⟩) (by show w.heap.size + 1 < _; omega)).trans bd10_1
  clear bd10_1
  have bd11_2 := (hb.cell (p := ⟨w.heap.size + 1, 1, none⟩) (by show w.heap.size + 1 < _; omega)).trans bd11_1
  clear bd11_1
  clear hb
  go_wp2
  go_ret
  exact ⟨rfl, B2⟩

set_option maxHeartbeats 400000 in
theorem walkOut1 (w : World) (x0 : Int) (hb0 : -9223372036854775808 ≤ x0 ∧ x0 ≤ 9223372036854775807) (A0 : Option Addr) (n0 c0 : Nat) (R0 : Spine) (xs0 : List (List Int)) (hr0 : RdM w A0 c0 R0 xs0) (hn0 : xs0.length = n0) (hw0 : WfM xs0) (x1 : Int) (hb1 : -9223372036854775808 ≤ x1 ∧ x1 ≤ 9223372036854775807) (A1 : Option Addr) (n1 c1 : Nat) (R1 : Spine) (xs1 : List (List Int)) (hr1 : RdM w A1 c1 R1 xs1) (hn1 : xs1.length = n1) (hw1 : WfM xs1) (hz0 : ((n0 : Int) + (tot xs0 : Nat)) ≤ 1048576) (hz : 1048576 < ((n0 : Int) + (tot xs0 : Nat)) + ((n1 : Int) + (tot xs1 : Nat))) :
    Calls Try.prog 5 #[.agg #[.int .i64 x0, .slice A0 n0 c0], .agg #[.int .i64 x1, .slice A1 n1 c1]] w fun e w' => e = .returned (.bool true) ∧ Below w.heap.size w w' := by
  have HR0 := Lib.hid hr0
  have HN0 := Lib.hid hn0
  have hm0 : n0 ≤ 9223372036854775807 := by have h1 := hr0.le; have h2 := hr0.cap; unfold maxLen at h2; omega
  clear hr0 hn0
  have HR1 := Lib.hid hr1
  have HN1 := Lib.hid hn1
  have hm1 : n1 ≤ 9223372036854775807 := by have h1 := hr1.le; have h2 := hr1.cap; unfold maxLen at h2; omega
  clear hr1 hn1
  go_enter Try.func5, Try.ntmps5
  go_wp2_with fail
  have hb : Below w.heap.size w ((w.alloc (.cells #[.int .i64 x0, .slice A0 n0 c0] 39)).alloc (.cells #[.int .i64 x1, .slice A1 n1 c1] 39)) := ((below_boxed _ _).alloc (by simp <;> omega) _)
  have qd0 : w.heap.size < ((w.alloc (.cells #[.int .i64 x0, .slice A0 n0 c0] 39)).alloc (.cells #[.int .i64 x1, .slice A1 n1 c1] 39)).heap.size := by simp <;> omega
  have bd00_1 : ((w.alloc (.cells #[.int .i64 x0, .slice A0 n0 c0] 39)).alloc (.cells #[.int .i64 x1, .slice A1 n1 c1] 39)).cell? ⟨w.heap.size, 0, none⟩ = some (.int .i64 x0) := by simp [go_sem]
  have bd01_1 : ((w.alloc (.cells #[.int .i64 x0, .slice A0 n0 c0] 39)).alloc (.cells #[.int .i64 x1, .slice A1 n1 c1] 39)).cell? ⟨w.heap.size, 1, none⟩ = some (.slice A0 n0 c0) := by simp [go_sem]
  have qd1 : w.heap.size + 1 < ((w.alloc (.cells #[.int .i64 x0, .slice A0 n0 c0] 39)).alloc (.cells #[.int .i64 x1, .slice A1 n1 c1] 39)).heap.size := by simp <;> omega
  have bd10_1 : ((w.alloc (.cells #[.int .i64 x0, .slice A0 n0 c0] 39)).alloc (.cells #[.int .i64 x1, .slice A1 n1 c1] 39)).cell? ⟨w.heap.size + 1, 0, none⟩ = some (.int .i64 x1) := by simp [go_sem]
  have bd11_1 : ((w.alloc (.cells #[.int .i64 x0, .slice A0 n0 c0] 39)).alloc (.cells #[.int .i64 x1, .slice A1 n1 c1] 39)).cell? ⟨w.heap.size + 1, 1, none⟩ = some (.slice A1 n1 c1) := by simp [go_sem]
  generalize ((w.alloc (.cells #[.int .i64 x0, .slice A0 n0 c0] 39)).alloc (.cells #[.int .i64 x1, .slice A1 n1 c1] 39)) = w1 at *
  have z1 : w.heap.size ≤ w1.heap.size := hb.size
  have B1 : Below w.heap.size w w1 := (hb.mono (by omega))
  clear hb
  go_wp2_with fail
  refine (szD_in w1 x0 A0 n0 c0 R0 xs0 (1048576) ((HR0.out).below B1) (HN0.out) (by omega) (by omega)).mono ?_
  rintro e w2 ⟨rfl, hb⟩
  have z2 : w1.heap.size ≤ w2.heap.size := hb.size
  have B2 : Below w.heap.size w w2 := B1.trans (hb.mono (by omega))
  have bd00_2 := (hb.cell (p := ⟨w.heap.size, 0, none⟩) (by show w.heap.size < _; omega)).trans bd00_1
  clear bd00_1
  have bd01_2 := (hb.cell (p := ⟨w.heap.size, 1, none⟩) (by show w.heap.size < _; omega)).trans bd01_1
  clear bd01_1
  have bd10_2 := (hb.cell (p := ⟨w.heap.size + 1, 0, none⟩) (by show w.heap.size + 1 < _; omega)).trans bd10_1
  clear bd10_1
  have bd11_2 := (hb.cell (p := ⟨w.heap.size + 1, 1, none⟩) (by show w.heap.size + 1 < _; omega)).trans bd11_1
  clear bd11_1
  clear hb
  go_wp2_with fail
  refine (szD_out w2 x1 A1 n1 c1 R1 xs1 (1048576 - (n0 : Int) - ((tot xs0 : Nat) : Int)) ((HR1.out).below B2) (HN1.out) (by omega) (by omega) (by omega)).mono ?_
  rintro e w3 ⟨rfl, hb⟩
  have z3 : w2.heap.size ≤ w3.heap.size := hb.size
  have B3 : Below w.heap.size w w3 := B2.trans (hb.mono (by omega))
  have bd00_3 := (hb.cell (p := ⟨w.heap.size, 0, none⟩) (by show w.heap.size < _; omega)).trans bd00_2
  clear bd00_2
  have bd01_3 := (hb.cell (p := ⟨w.heap.size, 1, none⟩) (by show w.heap.size < _; omega)).trans bd01_2
  clear bd01_2
  have bd10_3 := (hb.cell (p := ⟨w.heap.size + 1, 0, none⟩) (by show w.heap.size + 1 < _; omega)).trans bd10_2
  clear bd10_2
  have bd11_3 := (hb.cell (p := ⟨w.heap.size + 1, 1, none⟩) (by show w.heap.size + 1 < _; omega)).trans bd11_2
  clear bd11_2
  clear hb
  go_wp2
  go_ret
  exact ⟨rfl, B3⟩

set_option maxHeartbeats 64000000 in
set_option maxRecDepth 100000 in
theorem walkIn (w : World) (x0 : Int) (hb0 : -9223372036854775808 ≤ x0 ∧ x0 ≤ 9223372036854775807) (A0 : Option Addr) (n0 c0 : Nat) (R0 : Spine) (xs0 : List (List Int)) (hr0 : RdM w A0 c0 R0 xs0) (hn0 : xs0.length = n0) (hw0 : WfM xs0) (x1 : Int) (hb1 : -9223372036854775808 ≤ x1 ∧ x1 ≤ 9223372036854775807) (A1 : Option Addr) (n1 c1 : Nat) (R1 : Spine) (xs1 : List (List Int)) (hr1 : RdM w A1 c1 R1 xs1) (hn1 : xs1.length = n1) (hw1 : WfM xs1) (hz0 : ((n0 : Int) + (tot xs0 : Nat)) ≤ 1048576) (hz1 : ((n0 : Int) + (tot xs0 : Nat)) + ((n1 : Int) + (tot xs1 : Nat)) ≤ 1048576) :
    Calls Try.prog 5 #[.agg #[.int .i64 x0, .slice A0 n0 c0], .agg #[.int .i64 x1, .slice A1 n1 c1]] w fun e w' => e = .returned (.bool true) ∧ Below w.heap.size w w' := by
  have hsmall : (ptRX x0 xs0 x1 xs1).length ≤ 1048576 := (ProductTriples_small x0 xs0 x1 xs1).1
  have HS : tot (ptRX x0 xs0 x1 xs1) ≤ 1048576 := (ProductTriples_small x0 xs0 x1 xs1).2
  have HT0 : tot xs0 ≤ 1048576 := by omega
  have HT1 : tot xs1 ≤ 1048576 := by omega
  have HR0 := Lib.hid hr0
  have HN0 := Lib.hid hn0
  have hm0 : n0 ≤ 9223372036854775807 := by have h1 := hr0.le; have h2 := hr0.cap; unfold maxLen at h2; omega
  clear hr0 hn0
  have HR1 := Lib.hid hr1
  have HN1 := Lib.hid hn1
  have hm1 : n1 ≤ 9223372036854775807 := by have h1 := hr1.le; have h2 := hr1.cap; unfold maxLen at h2; omega
  clear hr1 hn1
  go_enter Try.func5, Try.ntmps5
  go_wp2_with fail
  have hb : Below w.heap.size w ((w.alloc (.cells #[.int .i64 x0, .slice A0 n0 c0] 39)).alloc (.cells #[.int .i64 x1, .slice A1 n1 c1] 39)) := ((below_boxed _ _).alloc (by simp <;> omega) _)
  have qd0 : w.heap.size < ((w.alloc (.cells #[.int .i64 x0, .slice A0 n0 c0] 39)).alloc (.cells #[.int .i64 x1, .slice A1 n1 c1] 39)).heap.size := by simp <;> omega
  have bd00_1 : ((w.alloc (.cells #[.int .i64 x0, .slice A0 n0 c0] 39)).alloc (.cells #[.int .i64 x1, .slice A1 n1 c1] 39)).cell? ⟨w.heap.size, 0, none⟩ = some (.int .i64 x0) := by simp [go_sem]
  have bd01_1 : ((w.alloc (.cells #[.int .i64 x0, .slice A0 n0 c0] 39)).alloc (.cells #[.int .i64 x1, .slice A1 n1 c1] 39)).cell? ⟨w.heap.size, 1, none⟩ = some (.slice A0 n0 c0) := by simp [go_sem]
  have qd1 : w.heap.size + 1 < ((w.alloc (.cells #[.int .i64 x0, .slice A0 n0 c0] 39)).alloc (.cells #[.int .i64 x1, .slice A1 n1 c1] 39)).heap.size := by simp <;> omega
  have bd10_1 : ((w.alloc (.cells #[.int .i64 x0, .slice A0 n0 c0] 39)).alloc (.cells #[.int .i64 x1, .slice A1 n1 c1] 39)).cell? ⟨w.heap.size + 1, 0, none⟩ = some (.int .i64 x1) := by simp [go_sem]
  have bd11_1 : ((w.alloc (.cells #[.int .i64 x0, .slice A0 n0 c0] 39)).alloc (.cells #[.int .i64 x1, .slice A1 n1 c1] 39)).cell? ⟨w.heap.size + 1, 1, none⟩ = some (.slice A1 n1 c1) := by simp [go_sem]
  generalize ((w.alloc (.cells #[.int .i64 x0, .slice A0 n0 c0] 39)).alloc (.cells #[.int .i64 x1, .slice A1 n1 c1] 39)) = w1 at *
  have z1 : w.heap.size ≤ w1.heap.size := hb.size
  have B1 : Below w.heap.size w w1 := (hb.mono (by omega))
  clear hb
  go_wp2_with fail
  refine (szD_in w1 x0 A0 n0 c0 R0 xs0 (1048576) ((HR0.out).below B1) (HN0.out) (by omega) (by omega)).mono ?_
  rintro e w2 ⟨rfl, hb⟩
  have z2 : w1.heap.size ≤ w2.heap.size := hb.size
  have B2 : Below w.heap.size w w2 := B1.trans (hb.mono (by omega))
  have bd00_2 := (hb.cell (p := ⟨w.heap.size, 0, none⟩) (by show w.heap.size < _; omega)).trans bd00_1
  clear bd00_1
  have bd01_2 := (hb.cell (p := ⟨w.heap.size, 1, none⟩) (by show w.heap.size < _; omega)).trans bd01_1
  clear bd01_1
  have bd10_2 := (hb.cell (p := ⟨w.heap.size + 1, 0, none⟩) (by show w.heap.size + 1 < _; omega)).trans bd10_1
  clear bd10_1
  have bd11_2 := (hb.cell (p := ⟨w.heap.size + 1, 1, none⟩) (by show w.heap.size + 1 < _; omega)).trans bd11_1
  clear bd11_1
  clear hb
  go_wp2_with fail
  refine (szD_in w2 x1 A1 n1 c1 R1 xs1 (1048576 - (n0 : Int) - ((tot xs0 : Nat) : Int)) ((HR1.out).below B2) (HN1.out) (by omega) (by omega)).mono ?_
  rintro e w3 ⟨rfl, hb⟩
  have z3 : w2.heap.size ≤ w3.heap.size := hb.size
  have B3 : Below w.heap.size w w3 := B2.trans (hb.mono (by omega))
  have bd00_3 := (hb.cell (p := ⟨w.heap.size, 0, none⟩) (by show w.heap.size < _; omega)).trans bd00_2
  clear bd00_2
  have bd01_3 := (hb.cell (p := ⟨w.heap.size, 1, none⟩) (by show w.heap.size < _; omega)).trans bd01_2
  clear bd01_2
  have bd10_3 := (hb.cell (p := ⟨w.heap.size + 1, 0, none⟩) (by show w.heap.size + 1 < _; omega)).trans bd10_2
  clear bd10_2
  have bd11_3 := (hb.cell (p := ⟨w.heap.size + 1, 1, none⟩) (by show w.heap.size + 1 < _; omega)).trans bd11_2
  clear bd11_2
  clear hb
  go_wp2_with fail
  have HE0 := Lib.hid (fun (w' : World) (hb : Below w3.heap.size w3 w') => toD w' x0 A0 n0 c0 R0 xs0 ((HR0.out).below (B3.trans (hb.mono (by omega)))) (HN0.out) (by omega) (fun k hk => by have := row_small HT0 k (by rw [HN0.out]; exact hk); omega))
  have HE1 := Lib.hid (fun (w' : World) (hb : Below w3.heap.size w3 w') => toD w' x1 A1 n1 c1 R1 xs1 ((HR1.out).below (B3.trans (hb.mono (by omega)))) (HN1.out) (by omega) (fun k hk => by have := row_small HT1 k (by rw [HN1.out]; exact hk); omega))
  have HSk := Lib.hid (fun (w' : World) (hb : Below w3.heap.size w3 w') => (show w'.cell? ⟨w.heap.size, 0, none⟩ = some (.int .i64 x0) ∧ w'.cell? ⟨w.heap.size, 1, none⟩ = some (.slice A0 n0 c0) ∧ w'.cell? ⟨w.heap.size + 1, 0, none⟩ = some (.int .i64 x1) ∧ w'.cell? ⟨w.heap.size + 1, 1, none⟩ = some (.slice A1 n1 c1) from ⟨(hb.cell (p := ⟨w.heap.size, 0, none⟩) (by show w.heap.size < w3.heap.size; omega)).trans bd00_3, (hb.cell (p := ⟨w.heap.size, 1, none⟩) (by show w.heap.size < w3.heap.size; omega)).trans bd01_3, (hb.cell (p := ⟨w.heap.size + 1, 0, none⟩) (by show w.heap.size + 1 < w3.heap.size; omega)).trans bd10_3, (hb.cell (p := ⟨w.heap.size + 1, 1, none⟩) (by show w.heap.size + 1 < w3.heap.size; omega)).trans bd11_3⟩))
  have hS := Lib.hid (show Below w3.heap.size w3 w3.drew from (Below.refl w3.heap.size w3).drew)
  have hSy := fun o => (Below.refl w3.heap.size w3).alloc (Nat.le_refl w3.heap.size) o
  have hSz := fun o => (show Below w3.heap.size w3 (w3.alloc o).drew from (hSy o).drew)
  have hzD := zeroD
  go_region_held3 (fun w' => w'.cell? ⟨w.heap.size, 0, none⟩ = some (.int .i64 x0) ∧ w'.cell? ⟨w.heap.size, 1, none⟩ = some (.slice A0 n0 c0) ∧ w'.cell? ⟨w.heap.size + 1, 0, none⟩ = some (.int .i64 x1) ∧ w'.cell? ⟨w.heap.size + 1, 1, none⟩ = some (.slice A1 n1 c1)) (first | exact HSk.out _ (Below.refl _ _) | exact HSk.out _ hS.out | exact HSk.out _ (hSy _) | exact HSk.out _ (hSz _) | exact HSk.out _ hS0.out | exact HSk.out _ (hS0z _) | exact HSk.out _ hS1.out | exact HSk.out _ (hS1z _) | exact HSk.out _ hSd.out | exact HSk.out _ (below_set2 hSd.out hgB) | exact HSk.out _ (hSdz _) | exact HSk.out _ (below_set2 (hSdz _) hSd.out.size))
    (first | (go_at_call 22; (with_reducible refine (HE0.out w3.drew hS.out).mono ?_); rintro e u0 ⟨⟨p0A, p0R, rfl, ho⟩, hb⟩; have hp0 := Lib.hid ho; have hS0 := Lib.hid (hS.out.trans (hb.mono hS.out.size)); have hS0z := fun o => hS0.out.alloc hS0.out.size o; clear ho hb) | (go_at_call 22; (with_reducible refine (HE0.out (w3.alloc (.cells #[.int .i64 0, .slice none 0 0] 26)).drew (hSz (.cells #[.int .i64 0, .slice none 0 0] 26))).mono ?_); rintro e u0 ⟨⟨p0A, p0R, rfl, ho⟩, hb⟩; have hp0 := Lib.hid ho; have hS0 := Lib.hid ((hSz (.cells #[.int .i64 0, .slice none 0 0] 26)).trans (hb.mono (hSz (.cells #[.int .i64 0, .slice none 0 0] 26)).size)); have hS0z := fun o => hS0.out.alloc hS0.out.size o; have rzB := (show RBox (w3.alloc (.cells #[.int .i64 0, .slice none 0 0] 26)).drew w3.heap.size from (RBox.made w3 26).drewN 1).step (lo := (w3.alloc (.cells #[.int .i64 0, .slice none 0 0] 26)).drew.heap.size) (show w3.heap.size < (w3.alloc (.cells #[.int .i64 0, .slice none 0 0] 26)).heap.size by simp) hb; have hgB : w3.heap.size ≤ w3.heap.size := Nat.le_refl _; clear ho hb) | (go_at_call 22; (with_reducible refine (HE1.out u0 hS0.out).mono ?_); rintro e u1 ⟨⟨p1A, p1R, rfl, ho⟩, hb⟩; have hp1 := Lib.hid ho; have hq0 := Lib.hid (hp0.out.below hb); have hS1 := Lib.hid (hS0.out.trans (hb.mono hS0.out.size)); have hS1z := fun o => hS1.out.alloc hS1.out.size o; (try (have rzC := RBox.step rzB (RBox.lt rzB) hb)); clear ho hb) | (go_at_call 22; (with_reducible refine (HE1.out (u0.alloc (.cells #[.int .i64 0, .slice none 0 0] 26)) (hS0z (.cells #[.int .i64 0, .slice none 0 0] 26))).mono ?_); rintro e u1 ⟨⟨p1A, p1R, rfl, ho⟩, hb⟩; have hp1 := Lib.hid ho; have hq0 := Lib.hid ((hp0.out.alloc (.cells #[.int .i64 0, .slice none 0 0] 26)).below hb); have hS1 := Lib.hid ((hS0z (.cells #[.int .i64 0, .slice none 0 0] 26)).trans (hb.mono (hS0z (.cells #[.int .i64 0, .slice none 0 0] 26)).size)); have hS1z := fun o => hS1.out.alloc hS1.out.size o; have rzC := (RBox.made u0 26).step (lo := (u0.alloc (.cells #[.int .i64 0, .slice none 0 0] 26)).heap.size) (by simp) hb; have hgB := hS0.out.size; clear ho hb) | (go_at_call 21; (with_reducible refine (specProductTriples_c u1 x0 hb0 p0A n0 n0 p0R xs0 hq0.out.rd (HN0.out) hw0 (by omega) x1 hb1 p1A n1 n1 p1R xs1 hp1.out.rd (HN1.out) hw1 (by omega)).mono ?_); rintro e u9 ⟨⟨w0A, w0n, w0c, w0R, rfl, w0hn, ho⟩, hb⟩; have hSd := Lib.hid (hS1.out.trans (hb.mono hS1.out.size)); have hSdz := fun o => hSd.out.alloc hSd.out.size o; (try (have rzD := RBox.step rzC (RBox.lt rzC) hb; have hgL := RBox.lt rzC; have z0 := rzD.c0; have z1 := rzD.c1; have y0 := rzD.f0; have y1 := rzD.f1)); have hU1 := hS1.out.size) | (go_at_call 21; (with_reducible refine (specProductTriples_c (u1.alloc (.cells #[.int .i64 0, .slice none 0 0] 26)) x0 hb0 p0A n0 n0 p0R xs0 (hq0.out.alloc (.cells #[.int .i64 0, .slice none 0 0] 26)).rd (HN0.out) hw0 (by omega) x1 hb1 p1A n1 n1 p1R xs1 (hp1.out.alloc (.cells #[.int .i64 0, .slice none 0 0] 26)).rd (HN1.out) hw1 (by omega)).mono ?_); rintro e u9 ⟨⟨w0A, w0n, w0c, w0R, rfl, w0hn, ho⟩, hb⟩; have hSd := Lib.hid ((hS1z (.cells #[.int .i64 0, .slice none 0 0] 26)).trans (hb.mono (hS1z (.cells #[.int .i64 0, .slice none 0 0] 26)).size)); have hSdz := fun o => hSd.out.alloc hSd.out.size o; have rzD := (RBox.made u1 26).step (lo := (u1.alloc (.cells #[.int .i64 0, .slice none 0 0] 26)).heap.size) (by simp) hb; have hgB := hS1.out.size; have hgL : u1.heap.size + 1 ≤ (u1.alloc (.cells #[.int .i64 0, .slice none 0 0] 26)).heap.size := (by simp); have z0 := rzD.c0; have z1 := rzD.c1; have y0 := rzD.f0; have y1 := rzD.f1; have hU1 := hS1.out.size))
  all_goals (
    have HL := Lib.hid w0hn
    have hsm : w0n ≤ 1048576 := by have := hsmall; have h2 := HL.out; omega
    clear w0hn
    first | (have rzE : RBox u9 w3.heap.size := rzD; have ho := own_set2 (lo := w3.heap.size) (B := w3.heap.size) (ho.lower (lo' := w3.heap.size + 1) hgL) (Nat.le_succ_of_le hgB) (.int .i64 (ptRP x0 xs0 x1 xs1)) (.slice w0A w0n w0c); have hb := below_set2 (u0 := .int .i64 (ptRP x0 xs0 x1 xs1)) (u1 := .slice w0A w0n w0c) (g := w3.heap.size) hSd.out hgB; obtain ⟨bw00_4, bw01_4⟩ := rzE.read (.int .i64 (ptRP x0 xs0 x1 xs1)) (.slice w0A w0n w0c); have qw0 : w3.heap.size < ((u9.setCell ⟨w3.heap.size, 0, none⟩ (.int .i64 (ptRP x0 xs0 x1 xs1))).setCell ⟨w3.heap.size, 1, none⟩ (.slice w0A w0n w0c)).heap.size := (by have := rzE.lt; simpa [World.setCell] using this); generalize ((u9.setCell ⟨w3.heap.size, 0, none⟩ (.int .i64 (ptRP x0 xs0 x1 xs1))).setCell ⟨w3.heap.size, 1, none⟩ (.slice w0A w0n w0c)) = w4 at *; obtain ⟨uw0, huw0⟩ : ∃ u, u = w3.heap.size := ⟨_, rfl⟩; have zuw0 : w3.heap.size ≤ uw0 := (by rw [huw0]; exact hgB); rw [← huw0] at bw00_4 bw01_4 qw0; try rw [← huw0]) | (have rzE : RBox u9 u0.heap.size := rzD; have ho := own_set2 (lo := w3.heap.size) (B := u0.heap.size) (ho.lower (lo' := u0.heap.size + 1) hgL) (Nat.le_succ_of_le hgB) (.int .i64 (ptRP x0 xs0 x1 xs1)) (.slice w0A w0n w0c); have hb := below_set2 (u0 := .int .i64 (ptRP x0 xs0 x1 xs1)) (u1 := .slice w0A w0n w0c) (g := u0.heap.size) hSd.out hgB; obtain ⟨bw00_4, bw01_4⟩ := rzE.read (.int .i64 (ptRP x0 xs0 x1 xs1)) (.slice w0A w0n w0c); have qw0 : u0.heap.size < ((u9.setCell ⟨u0.heap.size, 0, none⟩ (.int .i64 (ptRP x0 xs0 x1 xs1))).setCell ⟨u0.heap.size, 1, none⟩ (.slice w0A w0n w0c)).heap.size := (by have := rzE.lt; simpa [World.setCell] using this); generalize ((u9.setCell ⟨u0.heap.size, 0, none⟩ (.int .i64 (ptRP x0 xs0 x1 xs1))).setCell ⟨u0.heap.size, 1, none⟩ (.slice w0A w0n w0c)) = w4 at *; obtain ⟨uw0, huw0⟩ : ∃ u, u = u0.heap.size := ⟨_, rfl⟩; have zuw0 : w3.heap.size ≤ uw0 := (by rw [huw0]; exact hgB); rw [← huw0] at bw00_4 bw01_4 qw0; try rw [← huw0]) | (have rzE : RBox u9 u1.heap.size := rzD; have ho := own_set2 (lo := w3.heap.size) (B := u1.heap.size) (ho.lower (lo' := u1.heap.size + 1) hgL) (Nat.le_succ_of_le hgB) (.int .i64 (ptRP x0 xs0 x1 xs1)) (.slice w0A w0n w0c); have hb := below_set2 (u0 := .int .i64 (ptRP x0 xs0 x1 xs1)) (u1 := .slice w0A w0n w0c) (g := u1.heap.size) hSd.out hgB; obtain ⟨bw00_4, bw01_4⟩ := rzE.read (.int .i64 (ptRP x0 xs0 x1 xs1)) (.slice w0A w0n w0c); have qw0 : u1.heap.size < ((u9.setCell ⟨u1.heap.size, 0, none⟩ (.int .i64 (ptRP x0 xs0 x1 xs1))).setCell ⟨u1.heap.size, 1, none⟩ (.slice w0A w0n w0c)).heap.size := (by have := rzE.lt; simpa [World.setCell] using this); generalize ((u9.setCell ⟨u1.heap.size, 0, none⟩ (.int .i64 (ptRP x0 xs0 x1 xs1))).setCell ⟨u1.heap.size, 1, none⟩ (.slice w0A w0n w0c)) = w4 at *; obtain ⟨uw0, huw0⟩ : ∃ u, u = u1.heap.size := ⟨_, rfl⟩; have zuw0 : w3.heap.size ≤ uw0 := (by rw [huw0]; exact hgB); rw [← huw0] at bw00_4 bw01_4 qw0; try rw [← huw0]) | (have ho := (ho.lower (lo' := w3.heap.size) hU1).alloc (.cells #[.int .i64 (ptRP x0 xs0 x1 xs1), .slice w0A w0n w0c] 26); have hb := hSdz (.cells #[.int .i64 (ptRP x0 xs0 x1 xs1), .slice w0A w0n w0c] 26); have bw00_4 : (u9.alloc (.cells #[.int .i64 (ptRP x0 xs0 x1 xs1), .slice w0A w0n w0c] 26)).cell? ⟨u9.heap.size, 0, none⟩ = some (.int .i64 (ptRP x0 xs0 x1 xs1)) := (by simp [go_sem]); have bw01_4 : (u9.alloc (.cells #[.int .i64 (ptRP x0 xs0 x1 xs1), .slice w0A w0n w0c] 26)).cell? ⟨u9.heap.size, 1, none⟩ = some (.slice w0A w0n w0c) := (by simp [go_sem]); have qw0 : u9.heap.size < (u9.alloc (.cells #[.int .i64 (ptRP x0 xs0 x1 xs1), .slice w0A w0n w0c] 26)).heap.size := (by simp); generalize (u9.alloc (.cells #[.int .i64 (ptRP x0 xs0 x1 xs1), .slice w0A w0n w0c] 26)) = w4 at *; obtain ⟨uw0, huw0⟩ : ∃ u, u = u9.heap.size := ⟨_, rfl⟩; have zuw0 : w3.heap.size ≤ uw0 := (by rw [huw0]; exact hSd.out.size); rw [← huw0] at bw00_4 bw01_4 qw0; try rw [← huw0])
    clear hS hSy hSz hS0 hS0z hS1 hS1z hSd hSdz HSk HE0 HE1 hp0 hp1 hq0 hzD hU1 huw0
    have z4 : w3.heap.size ≤ w4.heap.size := hb.size
    have B4 : Below w.heap.size w w4 := B3.trans (hb.mono (by omega))
    have bd00_4 := (hb.cell (p := ⟨w.heap.size, 0, none⟩) (by show w.heap.size < _; omega)).trans bd00_3
    clear bd00_3
    have bd01_4 := (hb.cell (p := ⟨w.heap.size, 1, none⟩) (by show w.heap.size < _; omega)).trans bd01_3
    clear bd01_3
    have bd10_4 := (hb.cell (p := ⟨w.heap.size + 1, 0, none⟩) (by show w.heap.size + 1 < _; omega)).trans bd10_3
    clear bd10_3
    have bd11_4 := (hb.cell (p := ⟨w.heap.size + 1, 1, none⟩) (by show w.heap.size + 1 < _; omega)).trans bd11_3
    clear bd11_3
    clear hb
    have w0_4 := Lib.hid ho.in_
    clear ho
    go_wp2_with fail
    refine (toD w4 x0 A0 n0 c0 R0 xs0 ((HR0.out).below B4) (HN0.out) (by omega) (fun k hk => by have := row_small HT0 k (by rw [HN0.out]; exact hk); omega)).mono ?_
    rintro e w5 ⟨⟨x0A, x0R, rfl, ho⟩, hb⟩
    have z5 : w4.heap.size ≤ w5.heap.size := hb.size
    have B5 : Below w.heap.size w w5 := B4.trans (hb.mono (by omega))
    have w0_5 := Lib.hid (w0_4.out.step (w' := w5) (fun k h1 h2 => hb.block k (by omega)))
    clear w0_4
    have bd00_5 := (hb.cell (p := ⟨w.heap.size, 0, none⟩) (by show w.heap.size < _; omega)).trans bd00_4
    clear bd00_4
    have bd01_5 := (hb.cell (p := ⟨w.heap.size, 1, none⟩) (by show w.heap.size < _; omega)).trans bd01_4
    clear bd01_4
    have bd10_5 := (hb.cell (p := ⟨w.heap.size + 1, 0, none⟩) (by show w.heap.size + 1 < _; omega)).trans bd10_4
    clear bd10_4
    have bd11_5 := (hb.cell (p := ⟨w.heap.size + 1, 1, none⟩) (by show w.heap.size + 1 < _; omega)).trans bd11_4
    clear bd11_4
    have bw00_5 := (hb.cell (p := ⟨uw0, 0, none⟩) (by show uw0 < _; omega)).trans bw00_4
    clear bw00_4
    have bw01_5 := (hb.cell (p := ⟨uw0, 1, none⟩) (by show uw0 < _; omega)).trans bw01_4
    clear bw01_4
    clear hb
    have x0_5 := Lib.hid ho.in_
    clear ho
    have hb : Below w5.heap.size w5 (w5.alloc (.cells #[.int .i64 x0, .slice x0A n0 n0] 26)) := below_boxed _ _
    have qx0 : w5.heap.size < (w5.alloc (.cells #[.int .i64 x0, .slice x0A n0 n0] 26)).heap.size := by simp
    have bx00_6 : (w5.alloc (.cells #[.int .i64 x0, .slice x0A n0 n0] 26)).cell? ⟨w5.heap.size, 0, none⟩ = some (.int .i64 x0) := by simp [go_sem]
    have bx01_6 : (w5.alloc (.cells #[.int .i64 x0, .slice x0A n0 n0] 26)).cell? ⟨w5.heap.size, 1, none⟩ = some (.slice x0A n0 n0) := by simp [go_sem]
    have ed00 := (hb.cell (p := ⟨w.heap.size, 0, none⟩) (by show w.heap.size < _; omega)).trans bd00_5
    have ed01 := (hb.cell (p := ⟨w.heap.size, 1, none⟩) (by show w.heap.size < _; omega)).trans bd01_5
    have ed10 := (hb.cell (p := ⟨w.heap.size + 1, 0, none⟩) (by show w.heap.size + 1 < _; omega)).trans bd10_5
    have ed11 := (hb.cell (p := ⟨w.heap.size + 1, 1, none⟩) (by show w.heap.size + 1 < _; omega)).trans bd11_5
    have ew00 := (hb.cell (p := ⟨uw0, 0, none⟩) (by show uw0 < _; omega)).trans bw00_5
    have ew01 := (hb.cell (p := ⟨uw0, 1, none⟩) (by show uw0 < _; omega)).trans bw01_5
    go_wp2_with fail
    clear ed00 ed01
    clear ed10 ed11
    clear ew00 ew01
    generalize (w5.alloc (.cells #[.int .i64 x0, .slice x0A n0 n0] 26)) = w6 at *
    have z6 : w5.heap.size ≤ w6.heap.size := hb.size
    have B6 : Below w.heap.size w w6 := B5.trans (hb.mono (by omega))
    have w0_6 := Lib.hid (w0_5.out.step (w' := w6) (fun k h1 h2 => hb.block k (by omega)))
    clear w0_5
    have x0_6 := Lib.hid (x0_5.out.step (w' := w6) (fun k h1 h2 => hb.block k (by omega)))
    clear x0_5
    have bd00_6 := (hb.cell (p := ⟨w.heap.size, 0, none⟩) (by show w.heap.size < _; omega)).trans bd00_5
    clear bd00_5
    have bd01_6 := (hb.cell (p := ⟨w.heap.size, 1, none⟩) (by show w.heap.size < _; omega)).trans bd01_5
    clear bd01_5
    have bd10_6 := (hb.cell (p := ⟨w.heap.size + 1, 0, none⟩) (by show w.heap.size + 1 < _; omega)).trans bd10_5
    clear bd10_5
    have bd11_6 := (hb.cell (p := ⟨w.heap.size + 1, 1, none⟩) (by show w.heap.size + 1 < _; omega)).trans bd11_5
    clear bd11_5
    have bw00_6 := (hb.cell (p := ⟨uw0, 0, none⟩) (by show uw0 < _; omega)).trans bw00_5
    clear bw00_5
    have bw01_6 := (hb.cell (p := ⟨uw0, 1, none⟩) (by show uw0 < _; omega)).trans bw01_5
    clear bw01_5
    clear hb
    go_wp2_with fail
    refine (toD w6 x1 A1 n1 c1 R1 xs1 ((HR1.out).below B6) (HN1.out) (by omega) (fun k hk => by have := row_small HT1 k (by rw [HN1.out]; exact hk); omega)).mono ?_
    rintro e w7 ⟨⟨x1A, x1R, rfl, ho⟩, hb⟩
    have z7 : w6.heap.size ≤ w7.heap.size := hb.size
    have B7 : Below w.heap.size w w7 := B6.trans (hb.mono (by omega))
    have w0_7 := Lib.hid (w0_6.out.step (w' := w7) (fun k h1 h2 => hb.block k (by omega)))
    clear w0_6
    have x0_7 := Lib.hid (x0_6.out.step (w' := w7) (fun k h1 h2 => hb.block k (by omega)))
    clear x0_6
    have bd00_7 := (hb.cell (p := ⟨w.heap.size, 0, none⟩) (by show w.heap.size < _; omega)).trans bd00_6
    clear bd00_6
    have bd01_7 := (hb.cell (p := ⟨w.heap.size, 1, none⟩) (by show w.heap.size < _; omega)).trans bd01_6
    clear bd01_6
    have bd10_7 := (hb.cell (p := ⟨w.heap.size + 1, 0, none⟩) (by show w.heap.size + 1 < _; omega)).trans bd10_6
    clear bd10_6
    have bd11_7 := (hb.cell (p := ⟨w.heap.size + 1, 1, none⟩) (by show w.heap.size + 1 < _; omega)).trans bd11_6
    clear bd11_6
    have bw00_7 := (hb.cell (p := ⟨uw0, 0, none⟩) (by show uw0 < _; omega)).trans bw00_6
    clear bw00_6
    have bw01_7 := (hb.cell (p := ⟨uw0, 1, none⟩) (by show uw0 < _; omega)).trans bw01_6
    clear bw01_6
    have bx00_7 := (hb.cell (p := ⟨w5.heap.size, 0, none⟩) (by show w5.heap.size < _; omega)).trans bx00_6
    clear bx00_6
    have bx01_7 := (hb.cell (p := ⟨w5.heap.size, 1, none⟩) (by show w5.heap.size < _; omega)).trans bx01_6
    clear bx01_6
    clear hb
    have x1_7 := Lib.hid ho.in_
    clear ho
    have hb : Below w7.heap.size w7 (w7.alloc (.cells #[.int .i64 x1, .slice x1A n1 n1] 26)) := below_boxed _ _
    have qx1 : w7.heap.size < (w7.alloc (.cells #[.int .i64 x1, .slice x1A n1 n1] 26)).heap.size := by simp
    have bx10_8 : (w7.alloc (.cells #[.int .i64 x1, .slice x1A n1 n1] 26)).cell? ⟨w7.heap.size, 0, none⟩ = some (.int .i64 x1) := by simp [go_sem]
    have bx11_8 : (w7.alloc (.cells #[.int .i64 x1, .slice x1A n1 n1] 26)).cell? ⟨w7.heap.size, 1, none⟩ = some (.slice x1A n1 n1) := by simp [go_sem]
    have ed00 := (hb.cell (p := ⟨w.heap.size, 0, none⟩) (by show w.heap.size < _; omega)).trans bd00_7
    have ed01 := (hb.cell (p := ⟨w.heap.size, 1, none⟩) (by show w.heap.size < _; omega)).trans bd01_7
    have ed10 := (hb.cell (p := ⟨w.heap.size + 1, 0, none⟩) (by show w.heap.size + 1 < _; omega)).trans bd10_7
    have ed11 := (hb.cell (p := ⟨w.heap.size + 1, 1, none⟩) (by show w.heap.size + 1 < _; omega)).trans bd11_7
    have ew00 := (hb.cell (p := ⟨uw0, 0, none⟩) (by show uw0 < _; omega)).trans bw00_7
    have ew01 := (hb.cell (p := ⟨uw0, 1, none⟩) (by show uw0 < _; omega)).trans bw01_7
    have ex00 := (hb.cell (p := ⟨w5.heap.size, 0, none⟩) (by show w5.heap.size < _; omega)).trans bx00_7
    have ex01 := (hb.cell (p := ⟨w5.heap.size, 1, none⟩) (by show w5.heap.size < _; omega)).trans bx01_7
    go_wp2_with fail
    clear ed00 ed01
    clear ed10 ed11
    clear ew00 ew01
    clear ex00 ex01
    generalize (w7.alloc (.cells #[.int .i64 x1, .slice x1A n1 n1] 26)) = w8 at *
    have z8 : w7.heap.size ≤ w8.heap.size := hb.size
    have B8 : Below w.heap.size w w8 := B7.trans (hb.mono (by omega))
    have w0_8 := Lib.hid (w0_7.out.step (w' := w8) (fun k h1 h2 => hb.block k (by omega)))
    clear w0_7
    have x0_8 := Lib.hid (x0_7.out.step (w' := w8) (fun k h1 h2 => hb.block k (by omega)))
    clear x0_7
    have x1_8 := Lib.hid (x1_7.out.step (w' := w8) (fun k h1 h2 => hb.block k (by omega)))
    clear x1_7
    have bd00_8 := (hb.cell (p := ⟨w.heap.size, 0, none⟩) (by show w.heap.size < _; omega)).trans bd00_7
    clear bd00_7
    have bd01_8 := (hb.cell (p := ⟨w.heap.size, 1, none⟩) (by show w.heap.size < _; omega)).trans bd01_7
    clear bd01_7
    have bd10_8 := (hb.cell (p := ⟨w.heap.size + 1, 0, none⟩) (by show w.heap.size + 1 < _; omega)).trans bd10_7
    clear bd10_7
    have bd11_8 := (hb.cell (p := ⟨w.heap.size + 1, 1, none⟩) (by show w.heap.size + 1 < _; omega)).trans bd11_7
    clear bd11_7
    have bw00_8 := (hb.cell (p := ⟨uw0, 0, none⟩) (by show uw0 < _; omega)).trans bw00_7
    clear bw00_7
    have bw01_8 := (hb.cell (p := ⟨uw0, 1, none⟩) (by show uw0 < _; omega)).trans bw01_7
    clear bw01_7
    have bx00_8 := (hb.cell (p := ⟨w5.heap.size, 0, none⟩) (by show w5.heap.size < _; omega)).trans bx00_7
    clear bx00_7
    have bx01_8 := (hb.cell (p := ⟨w5.heap.size, 1, none⟩) (by show w5.heap.size < _; omega)).trans bx01_7
    clear bx01_7
    clear hb
    go_wp2_with fail
    refine (implProductTriples_c w8 x0 hb0 x0A n0 n0 x0R xs0 x0_8.out.own.rd (HN0.out) hw0 (by omega) x1 hb1 x1A n1 n1 x1R xs1 x1_8.out.own.rd (HN1.out) hw1 (by omega)).mono ?_
    rintro e w9 ⟨⟨g0A, g0n, g0c, g0R, rfl, g0hn, ho⟩, hb⟩
    obtain rfl : w0n = g0n := HL.out.symm.trans g0hn
    clear g0hn
    have z9 : w8.heap.size ≤ w9.heap.size := hb.size
    have B9 : Below w.heap.size w w9 := B8.trans (hb.mono (by omega))
    have w0_9 := Lib.hid (w0_8.out.step (w' := w9) (fun k h1 h2 => hb.block k (by omega)))
    clear w0_8
    have x0_9 := Lib.hid (x0_8.out.step (w' := w9) (fun k h1 h2 => hb.block k (by omega)))
    clear x0_8
    have x1_9 := Lib.hid (x1_8.out.step (w' := w9) (fun k h1 h2 => hb.block k (by omega)))
    clear x1_8
    have bd00_9 := (hb.cell (p := ⟨w.heap.size, 0, none⟩) (by show w.heap.size < _; omega)).trans bd00_8
    clear bd00_8
    have bd01_9 := (hb.cell (p := ⟨w.heap.size, 1, none⟩) (by show w.heap.size < _; omega)).trans bd01_8
    clear bd01_8
    have bd10_9 := (hb.cell (p := ⟨w.heap.size + 1, 0, none⟩) (by show w.heap.size + 1 < _; omega)).trans bd10_8
    clear bd10_8
    have bd11_9 := (hb.cell (p := ⟨w.heap.size + 1, 1, none⟩) (by show w.heap.size + 1 < _; omega)).trans bd11_8
    clear bd11_8
    have bw00_9 := (hb.cell (p := ⟨uw0, 0, none⟩) (by show uw0 < _; omega)).trans bw00_8
    clear bw00_8
    have bw01_9 := (hb.cell (p := ⟨uw0, 1, none⟩) (by show uw0 < _; omega)).trans bw01_8
    clear bw01_8
    have bx00_9 := (hb.cell (p := ⟨w5.heap.size, 0, none⟩) (by show w5.heap.size < _; omega)).trans bx00_8
    clear bx00_8
    have bx01_9 := (hb.cell (p := ⟨w5.heap.size, 1, none⟩) (by show w5.heap.size < _; omega)).trans bx01_8
    clear bx01_8
    have bx10_9 := (hb.cell (p := ⟨w7.heap.size, 0, none⟩) (by show w7.heap.size < _; omega)).trans bx10_8
    clear bx10_8
    have bx11_9 := (hb.cell (p := ⟨w7.heap.size, 1, none⟩) (by show w7.heap.size < _; omega)).trans bx11_8
    clear bx11_8
    clear hb
    have g0_9 := Lib.hid ho.in_
    clear ho
    have hb : Below w9.heap.size w9 (w9.alloc (.cells #[.int .i64 (ptRP x0 xs0 x1 xs1), .slice g0A w0n g0c] 26)) := below_boxed _ _
    have qg0 : w9.heap.size < (w9.alloc (.cells #[.int .i64 (ptRP x0 xs0 x1 xs1), .slice g0A w0n g0c] 26)).heap.size := by simp
    have bg00_10 : (w9.alloc (.cells #[.int .i64 (ptRP x0 xs0 x1 xs1), .slice g0A w0n g0c] 26)).cell? ⟨w9.heap.size, 0, none⟩ = some (.int .i64 (ptRP x0 xs0 x1 xs1)) := by simp [go_sem]
    have bg01_10 : (w9.alloc (.cells #[.int .i64 (ptRP x0 xs0 x1 xs1), .slice g0A w0n g0c] 26)).cell? ⟨w9.heap.size, 1, none⟩ = some (.slice g0A w0n g0c) := by simp [go_sem]
    have ed00 := (hb.cell (p := ⟨w.heap.size, 0, none⟩) (by show w.heap.size < _; omega)).trans bd00_9
    have ed01 := (hb.cell (p := ⟨w.heap.size, 1, none⟩) (by show w.heap.size < _; omega)).trans bd01_9
    have ed10 := (hb.cell (p := ⟨w.heap.size + 1, 0, none⟩) (by show w.heap.size + 1 < _; omega)).trans bd10_9
    have ed11 := (hb.cell (p := ⟨w.heap.size + 1, 1, none⟩) (by show w.heap.size + 1 < _; omega)).trans bd11_9
    have ew00 := (hb.cell (p := ⟨uw0, 0, none⟩) (by show uw0 < _; omega)).trans bw00_9
    have ew01 := (hb.cell (p := ⟨uw0, 1, none⟩) (by show uw0 < _; omega)).trans bw01_9
    have ex00 := (hb.cell (p := ⟨w5.heap.size, 0, none⟩) (by show w5.heap.size < _; omega)).trans bx00_9
    have ex01 := (hb.cell (p := ⟨w5.heap.size, 1, none⟩) (by show w5.heap.size < _; omega)).trans bx01_9
    have ex10 := (hb.cell (p := ⟨w7.heap.size, 0, none⟩) (by show w7.heap.size < _; omega)).trans bx10_9
    have ex11 := (hb.cell (p := ⟨w7.heap.size, 1, none⟩) (by show w7.heap.size < _; omega)).trans bx11_9
    go_wp2_with fail
    clear ed00 ed01
    clear ed10 ed11
    clear ew00 ew01
    clear ex00 ex01
    clear ex10 ex11
    generalize (w9.alloc (.cells #[.int .i64 (ptRP x0 xs0 x1 xs1), .slice g0A w0n g0c] 26)) = w10 at *
    have z10 : w9.heap.size ≤ w10.heap.size := hb.size
    have B10 : Below w.heap.size w w10 := B9.trans (hb.mono (by omega))
    have w0_10 := Lib.hid (w0_9.out.step (w' := w10) (fun k h1 h2 => hb.block k (by omega)))
    clear w0_9
    have x0_10 := Lib.hid (x0_9.out.step (w' := w10) (fun k h1 h2 => hb.block k (by omega)))
    clear x0_9
    have x1_10 := Lib.hid (x1_9.out.step (w' := w10) (fun k h1 h2 => hb.block k (by omega)))
    clear x1_9
    have g0_10 := Lib.hid (g0_9.out.step (w' := w10) (fun k h1 h2 => hb.block k (by omega)))
    clear g0_9
    have bd00_10 := (hb.cell (p := ⟨w.heap.size, 0, none⟩) (by show w.heap.size < _; omega)).trans bd00_9
    clear bd00_9
    have bd01_10 := (hb.cell (p := ⟨w.heap.size, 1, none⟩) (by show w.heap.size < _; omega)).trans bd01_9
    clear bd01_9
    have bd10_10 := (hb.cell (p := ⟨w.heap.size + 1, 0, none⟩) (by show w.heap.size + 1 < _; omega)).trans bd10_9
    clear bd10_9
    have bd11_10 := (hb.cell (p := ⟨w.heap.size + 1, 1, none⟩) (by show w.heap.size + 1 < _; omega)).trans bd11_9
    clear bd11_9
    have bw00_10 := (hb.cell (p := ⟨uw0, 0, none⟩) (by show uw0 < _; omega)).trans bw00_9
    clear bw00_9
    have bw01_10 := (hb.cell (p := ⟨uw0, 1, none⟩) (by show uw0 < _; omega)).trans bw01_9
    clear bw01_9
    have bx00_10 := (hb.cell (p := ⟨w5.heap.size, 0, none⟩) (by show w5.heap.size < _; omega)).trans bx00_9
    clear bx00_9
    have bx01_10 := (hb.cell (p := ⟨w5.heap.size, 1, none⟩) (by show w5.heap.size < _; omega)).trans bx01_9
    clear bx01_9
    have bx10_10 := (hb.cell (p := ⟨w7.heap.size, 0, none⟩) (by show w7.heap.size < _; omega)).trans bx10_9
    clear bx10_9
    have bx11_10 := (hb.cell (p := ⟨w7.heap.size, 1, none⟩) (by show w7.heap.size < _; omega)).trans bx11_9
    clear bx11_9
    clear hb
    go_wp2_with fail
    refine (eqD_v w10 (ptRP x0 xs0 x1 xs1) g0_10.out.own.rd w0_10.out.own.rd (HL.out) (by have := HL.out; omega) (fun k hk => by have := row_small HS k hk; omega)).mono ?_
    rintro e w11 ⟨rfl, hb⟩
    have z11 : w10.heap.size ≤ w11.heap.size := hb.size
    have B11 : Below w.heap.size w w11 := B10.trans (hb.mono (by omega))
    have w0_11 := Lib.hid (w0_10.out.step (w' := w11) (fun k h1 h2 => hb.block k (by omega)))
    clear w0_10
    have x0_11 := Lib.hid (x0_10.out.step (w' := w11) (fun k h1 h2 => hb.block k (by omega)))
    clear x0_10
    have x1_11 := Lib.hid (x1_10.out.step (w' := w11) (fun k h1 h2 => hb.block k (by omega)))
    clear x1_10
    have g0_11 := Lib.hid (g0_10.out.step (w' := w11) (fun k h1 h2 => hb.block k (by omega)))
    clear g0_10
    have bd00_11 := (hb.cell (p := ⟨w.heap.size, 0, none⟩) (by show w.heap.size < _; omega)).trans bd00_10
    clear bd00_10
    have bd01_11 := (hb.cell (p := ⟨w.heap.size, 1, none⟩) (by show w.heap.size < _; omega)).trans bd01_10
    clear bd01_10
    have bd10_11 := (hb.cell (p := ⟨w.heap.size + 1, 0, none⟩) (by show w.heap.size + 1 < _; omega)).trans bd10_10
    clear bd10_10
    have bd11_11 := (hb.cell (p := ⟨w.heap.size + 1, 1, none⟩) (by show w.heap.size + 1 < _; omega)).trans bd11_10
    clear bd11_10
    have bw00_11 := (hb.cell (p := ⟨uw0, 0, none⟩) (by show uw0 < _; omega)).trans bw00_10
    clear bw00_10
    have bw01_11 := (hb.cell (p := ⟨uw0, 1, none⟩) (by show uw0 < _; omega)).trans bw01_10
    clear bw01_10
    have bx00_11 := (hb.cell (p := ⟨w5.heap.size, 0, none⟩) (by show w5.heap.size < _; omega)).trans bx00_10
    clear bx00_10
    have bx01_11 := (hb.cell (p := ⟨w5.heap.size, 1, none⟩) (by show w5.heap.size < _; omega)).trans bx01_10
    clear bx01_10
    have bx10_11 := (hb.cell (p := ⟨w7.heap.size, 0, none⟩) (by show w7.heap.size < _; omega)).trans bx10_10
    clear bx10_10
    have bx11_11 := (hb.cell (p := ⟨w7.heap.size, 1, none⟩) (by show w7.heap.size < _; omega)).trans bx11_10
    clear bx11_10
    have bg00_11 := (hb.cell (p := ⟨w9.heap.size, 0, none⟩) (by show w9.heap.size < _; omega)).trans bg00_10
    clear bg00_10
    have bg01_11 := (hb.cell (p := ⟨w9.heap.size, 1, none⟩) (by show w9.heap.size < _; omega)).trans bg01_10
    clear bg01_10
    clear hb
    go_wp2_with fail
    have HE := Lib.hid (fun (w' : World) (hb : Below w11.heap.size w11 w') => toD w' x0 A0 n0 c0 R0 xs0 ((HR0.out).below (B11.trans (hb.mono (by omega)))) (HN0.out) (by omega) (fun k hk => by have := row_small HT0 k (by rw [HN0.out]; exact hk); omega))
    have ck0 := Lib.hid (fun (w' : World) (hb : Below w11.heap.size w11 w') => (hb.cell (p := ⟨w.heap.size, 0, none⟩) (by show w.heap.size < w11.heap.size; omega)).trans bd00_11)
    have ck1 := Lib.hid (fun (w' : World) (hb : Below w11.heap.size w11 w') => (hb.cell (p := ⟨w.heap.size, 1, none⟩) (by show w.heap.size < w11.heap.size; omega)).trans bd01_11)
    have ck2 := Lib.hid (fun (w' : World) (hb : Below w11.heap.size w11 w') => (hb.cell (p := ⟨w5.heap.size, 0, none⟩) (by show w5.heap.size < w11.heap.size; omega)).trans bx00_11)
    have ck3 := Lib.hid (fun (w' : World) (hb : Below w11.heap.size w11 w') => (hb.cell (p := ⟨w5.heap.size, 1, none⟩) (by show w5.heap.size < w11.heap.size; omega)).trans bx01_11)
    have hS := Lib.hid (Below.refl w11.heap.size w11)
    go_region_held3 (fun w' => Below w11.heap.size w11 w' ∧ w'.cell? ⟨w.heap.size, 0, none⟩ = some (.int .i64 x0) ∧ w'.cell? ⟨w.heap.size, 1, none⟩ = some (.slice A0 n0 c0) ∧ w'.cell? ⟨w5.heap.size, 0, none⟩ = some (.int .i64 x0) ∧ w'.cell? ⟨w5.heap.size, 1, none⟩ = some (.slice x0A n0 n0)) (first | exact ⟨hS.out, ck0.out _ hS.out, ck1.out _ hS.out, ck2.out _ hS.out, ck3.out _ hS.out⟩ | exact ⟨below_drewN hS.out 1, ck0.out _ (below_drewN hS.out 1), ck1.out _ (below_drewN hS.out 1), ck2.out _ (below_drewN hS.out 1), ck3.out _ (below_drewN hS.out 1)⟩)
      (first
        | (go_at_call 22; refine (HE.out _ (below_drewN hS.out 1)).mono ?_; rintro e wy ⟨⟨yA, yR, rfl, ho⟩, hb⟩; have hy := Lib.hid ho; have hS := Lib.hid ((below_drewN hS.out 1).trans (hb.mono hS.out.size)); have h1y := Lib.hid hb; clear ho hb)
        | (go_at_call 10; refine (eqD_v _ x0 (x0_11.out.step (w' := wy) (fun k h1 h2 => hS.out.block k (by omega))).own.rd hy.out.rd (HN0.out) (by have := HN0.out; omega) (fun k hk => by have := row_small HT0 k hk; omega)).mono ?_; rintro e w12 ⟨rfl, hb⟩; have hS1 := hS; have hS := Lib.hid (hS1.out.trans (hb.mono hS1.out.size)); clear hb))
    have hb := hS.out
    clear hS HE hy h1y ck0 ck1 ck2 ck3
    have z12 : w11.heap.size ≤ w12.heap.size := hb.size
    have B12 : Below w.heap.size w w12 := B11.trans (hb.mono (by omega))
    have w0_12 := Lib.hid (w0_11.out.step (w' := w12) (fun k h1 h2 => hb.block k (by omega)))
    clear w0_11
    have x0_12 := Lib.hid (x0_11.out.step (w' := w12) (fun k h1 h2 => hb.block k (by omega)))
    clear x0_11
    have x1_12 := Lib.hid (x1_11.out.step (w' := w12) (fun k h1 h2 => hb.block k (by omega)))
    clear x1_11
    have g0_12 := Lib.hid (g0_11.out.step (w' := w12) (fun k h1 h2 => hb.block k (by omega)))
    clear g0_11
    have bd00_12 := (hb.cell (p := ⟨w.heap.size, 0, none⟩) (by show w.heap.size < _; omega)).trans bd00_11
    clear bd00_11
    have bd01_12 := (hb.cell (p := ⟨w.heap.size, 1, none⟩) (by show w.heap.size < _; omega)).trans bd01_11
    clear bd01_11
    have bd10_12 := (hb.cell (p := ⟨w.heap.size + 1, 0, none⟩) (by show w.heap.size + 1 < _; omega)).trans bd10_11
    clear bd10_11
    have bd11_12 := (hb.cell (p := ⟨w.heap.size + 1, 1, none⟩) (by show w.heap.size + 1 < _; omega)).trans bd11_11
    clear bd11_11
    have bw00_12 := (hb.cell (p := ⟨uw0, 0, none⟩) (by show uw0 < _; omega)).trans bw00_11
    clear bw00_11
    have bw01_12 := (hb.cell (p := ⟨uw0, 1, none⟩) (by show uw0 < _; omega)).trans bw01_11
    clear bw01_11
    have bx00_12 := (hb.cell (p := ⟨w5.heap.size, 0, none⟩) (by show w5.heap.size < _; omega)).trans bx00_11
    clear bx00_11
    have bx01_12 := (hb.cell (p := ⟨w5.heap.size, 1, none⟩) (by show w5.heap.size < _; omega)).trans bx01_11
    clear bx01_11
    have bx10_12 := (hb.cell (p := ⟨w7.heap.size, 0, none⟩) (by show w7.heap.size < _; omega)).trans bx10_11
    clear bx10_11
    have bx11_12 := (hb.cell (p := ⟨w7.heap.size, 1, none⟩) (by show w7.heap.size < _; omega)).trans bx11_11
    clear bx11_11
    have bg00_12 := (hb.cell (p := ⟨w9.heap.size, 0, none⟩) (by show w9.heap.size < _; omega)).trans bg00_11
    clear bg00_11
    have bg01_12 := (hb.cell (p := ⟨w9.heap.size, 1, none⟩) (by show w9.heap.size < _; omega)).trans bg01_11
    clear bg01_11
    clear hb
    go_wp2_with fail
    have HE := Lib.hid (fun (w' : World) (hb : Below w12.heap.size w12 w') => toD w' x1 A1 n1 c1 R1 xs1 ((HR1.out).below (B12.trans (hb.mono (by omega)))) (HN1.out) (by omega) (fun k hk => by have := row_small HT1 k (by rw [HN1.out]; exact hk); omega))
    have ck0 := Lib.hid (fun (w' : World) (hb : Below w12.heap.size w12 w') => (hb.cell (p := ⟨w.heap.size + 1, 0, none⟩) (by show w.heap.size + 1 < w12.heap.size; omega)).trans bd10_12)
    have ck1 := Lib.hid (fun (w' : World) (hb : Below w12.heap.size w12 w') => (hb.cell (p := ⟨w.heap.size + 1, 1, none⟩) (by show w.heap.size + 1 < w12.heap.size; omega)).trans bd11_12)
    have ck2 := Lib.hid (fun (w' : World) (hb : Below w12.heap.size w12 w') => (hb.cell (p := ⟨w7.heap.size, 0, none⟩) (by show w7.heap.size < w12.heap.size; omega)).trans bx10_12)
    have ck3 := Lib.hid (fun (w' : World) (hb : Below w12.heap.size w12 w') => (hb.cell (p := ⟨w7.heap.size, 1, none⟩) (by show w7.heap.size < w12.heap.size; omega)).trans bx11_12)
    have hS := Lib.hid (Below.refl w12.heap.size w12)
    go_region_held3 (fun w' => Below w12.heap.size w12 w' ∧ w'.cell? ⟨w.heap.size + 1, 0, none⟩ = some (.int .i64 x1) ∧ w'.cell? ⟨w.heap.size + 1, 1, none⟩ = some (.slice A1 n1 c1) ∧ w'.cell? ⟨w7.heap.size, 0, none⟩ = some (.int .i64 x1) ∧ w'.cell? ⟨w7.heap.size, 1, none⟩ = some (.slice x1A n1 n1)) (first | exact ⟨hS.out, ck0.out _ hS.out, ck1.out _ hS.out, ck2.out _ hS.out, ck3.out _ hS.out⟩ | exact ⟨below_drewN hS.out 1, ck0.out _ (below_drewN hS.out 1), ck1.out _ (below_drewN hS.out 1), ck2.out _ (below_drewN hS.out 1), ck3.out _ (below_drewN hS.out 1)⟩)
      (first
        | (go_at_call 22; refine (HE.out _ (below_drewN hS.out 1)).mono ?_; rintro e wy ⟨⟨yA, yR, rfl, ho⟩, hb⟩; have hy := Lib.hid ho; have hS := Lib.hid ((below_drewN hS.out 1).trans (hb.mono hS.out.size)); have h1y := Lib.hid hb; clear ho hb)
        | (go_at_call 10; refine (eqD_v _ x1 (x1_12.out.step (w' := wy) (fun k h1 h2 => hS.out.block k (by omega))).own.rd hy.out.rd (HN1.out) (by have := HN1.out; omega) (fun k hk => by have := row_small HT1 k hk; omega)).mono ?_; rintro e w13 ⟨rfl, hb⟩; have hS1 := hS; have hS := Lib.hid (hS1.out.trans (hb.mono hS1.out.size)); clear hb))
    have hb := hS.out
    clear hS HE hy h1y ck0 ck1 ck2 ck3
    have z13 : w12.heap.size ≤ w13.heap.size := hb.size
    have B13 : Below w.heap.size w w13 := B12.trans (hb.mono (by omega))
    have w0_13 := Lib.hid (w0_12.out.step (w' := w13) (fun k h1 h2 => hb.block k (by omega)))
    clear w0_12
    have x0_13 := Lib.hid (x0_12.out.step (w' := w13) (fun k h1 h2 => hb.block k (by omega)))
    clear x0_12
    have x1_13 := Lib.hid (x1_12.out.step (w' := w13) (fun k h1 h2 => hb.block k (by omega)))
    clear x1_12
    have g0_13 := Lib.hid (g0_12.out.step (w' := w13) (fun k h1 h2 => hb.block k (by omega)))
    clear g0_12
    have bd00_13 := (hb.cell (p := ⟨w.heap.size, 0, none⟩) (by show w.heap.size < _; omega)).trans bd00_12
    clear bd00_12
    have bd01_13 := (hb.cell (p := ⟨w.heap.size, 1, none⟩) (by show w.heap.size < _; omega)).trans bd01_12
    clear bd01_12
    have bd10_13 := (hb.cell (p := ⟨w.heap.size + 1, 0, none⟩) (by show w.heap.size + 1 < _; omega)).trans bd10_12
    clear bd10_12
    have bd11_13 := (hb.cell (p := ⟨w.heap.size + 1, 1, none⟩) (by show w.heap.size + 1 < _; omega)).trans bd11_12
    clear bd11_12
    have bw00_13 := (hb.cell (p := ⟨uw0, 0, none⟩) (by show uw0 < _; omega)).trans bw00_12
    clear bw00_12
    have bw01_13 := (hb.cell (p := ⟨uw0, 1, none⟩) (by show uw0 < _; omega)).trans bw01_12
    clear bw01_12
    have bx00_13 := (hb.cell (p := ⟨w5.heap.size, 0, none⟩) (by show w5.heap.size < _; omega)).trans bx00_12
    clear bx00_12
    have bx01_13 := (hb.cell (p := ⟨w5.heap.size, 1, none⟩) (by show w5.heap.size < _; omega)).trans bx01_12
    clear bx01_12
    have bx10_13 := (hb.cell (p := ⟨w7.heap.size, 0, none⟩) (by show w7.heap.size < _; omega)).trans bx10_12
    clear bx10_12
    have bx11_13 := (hb.cell (p := ⟨w7.heap.size, 1, none⟩) (by show w7.heap.size < _; omega)).trans bx11_12
    clear bx11_12
    have bg00_13 := (hb.cell (p := ⟨w9.heap.size, 0, none⟩) (by show w9.heap.size < _; omega)).trans bg00_12
    clear bg00_12
    have bg01_13 := (hb.cell (p := ⟨w9.heap.size, 1, none⟩) (by show w9.heap.size < _; omega)).trans bg01_12
    clear bg01_12
    clear hb
    go_wp2_with fail
    refine (markD_v w13 x0 (1) x0_13.out (HN0.out) (by omega) (by omega)).mono ?_
    rintro e w14 ⟨rfl, ⟨x0Y, ho, x0hM⟩, hb⟩
    have z14 : w13.heap.size ≤ w14.heap.size := hb.size
    have B14 : Below w.heap.size w w14 := B13.trans (hb.below (by omega) (by omega))
    have w0_14 := Lib.hid (w0_13.out.step (w' := w14) (fun k h1 h2 => hb.block k (by omega) (by first | exact Or.inl (by omega) | exact Or.inr (by omega))))
    clear w0_13
    have x1_14 := Lib.hid (x1_13.out.step (w' := w14) (fun k h1 h2 => hb.block k (by omega) (by first | exact Or.inl (by omega) | exact Or.inr (by omega))))
    clear x1_13
    have g0_14 := Lib.hid (g0_13.out.step (w' := w14) (fun k h1 h2 => hb.block k (by omega) (by first | exact Or.inl (by omega) | exact Or.inr (by omega))))
    clear g0_13
    have bd00_14 := (World.cell?_of_block (a := ⟨w.heap.size, 0, none⟩) (hb.block (w.heap.size) (by omega) (by first | exact Or.inl (by omega) | exact Or.inr (by omega)))).trans bd00_13
    clear bd00_13
    have bd01_14 := (World.cell?_of_block (a := ⟨w.heap.size, 1, none⟩) (hb.block (w.heap.size) (by omega) (by first | exact Or.inl (by omega) | exact Or.inr (by omega)))).trans bd01_13
    clear bd01_13
    have bd10_14 := (World.cell?_of_block (a := ⟨w.heap.size + 1, 0, none⟩) (hb.block (w.heap.size + 1) (by omega) (by first | exact Or.inl (by omega) | exact Or.inr (by omega)))).trans bd10_13
    clear bd10_13
    have bd11_14 := (World.cell?_of_block (a := ⟨w.heap.size + 1, 1, none⟩) (hb.block (w.heap.size + 1) (by omega) (by first | exact Or.inl (by omega) | exact Or.inr (by omega)))).trans bd11_13
    clear bd11_13
    have bw00_14 := (World.cell?_of_block (a := ⟨uw0, 0, none⟩) (hb.block (uw0) (by omega) (by first | exact Or.inl (by omega) | exact Or.inr (by omega)))).trans bw00_13
    clear bw00_13
    have bw01_14 := (World.cell?_of_block (a := ⟨uw0, 1, none⟩) (hb.block (uw0) (by omega) (by first | exact Or.inl (by omega) | exact Or.inr (by omega)))).trans bw01_13
    clear bw01_13
    have bx00_14 := (World.cell?_of_block (a := ⟨w5.heap.size, 0, none⟩) (hb.block (w5.heap.size) (by omega) (by first | exact Or.inl (by omega) | exact Or.inr (by omega)))).trans bx00_13
    clear bx00_13
    have bx01_14 := (World.cell?_of_block (a := ⟨w5.heap.size, 1, none⟩) (hb.block (w5.heap.size) (by omega) (by first | exact Or.inl (by omega) | exact Or.inr (by omega)))).trans bx01_13
    clear bx01_13
    have bx10_14 := (World.cell?_of_block (a := ⟨w7.heap.size, 0, none⟩) (hb.block (w7.heap.size) (by omega) (by first | exact Or.inl (by omega) | exact Or.inr (by omega)))).trans bx10_13
    clear bx10_13
    have bx11_14 := (World.cell?_of_block (a := ⟨w7.heap.size, 1, none⟩) (hb.block (w7.heap.size) (by omega) (by first | exact Or.inl (by omega) | exact Or.inr (by omega)))).trans bx11_13
    clear bx11_13
    have bg00_14 := (World.cell?_of_block (a := ⟨w9.heap.size, 0, none⟩) (hb.block (w9.heap.size) (by omega) (by first | exact Or.inl (by omega) | exact Or.inr (by omega)))).trans bg00_13
    clear bg00_13
    have bg01_14 := (World.cell?_of_block (a := ⟨w9.heap.size, 1, none⟩) (hb.block (w9.heap.size) (by omega) (by first | exact Or.inl (by omega) | exact Or.inr (by omega)))).trans bg01_13
    clear bg01_13
    clear hb
    have x0_14 := Lib.hid ho
    clear ho x0_13
    have x0HM := Lib.hid x0hM
    clear x0hM
    go_wp2_with fail
    refine (markD_v w14 x1 (1 + ((tot (xs0) : Nat) : Int)) x1_14.out (HN1.out) (by omega) (by omega)).mono ?_
    rintro e w15 ⟨rfl, ⟨x1Y, ho, x1hM⟩, hb⟩
    have z15 : w14.heap.size ≤ w15.heap.size := hb.size
    have B15 : Below w.heap.size w w15 := B14.trans (hb.below (by omega) (by omega))
    have w0_15 := Lib.hid (w0_14.out.step (w' := w15) (fun k h1 h2 => hb.block k (by omega) (by first | exact Or.inl (by omega) | exact Or.inr (by omega))))
    clear w0_14
    have x0_15 := Lib.hid (x0_14.out.step (w' := w15) (fun k h1 h2 => hb.block k (by omega) (by first | exact Or.inl (by omega) | exact Or.inr (by omega))))
    clear x0_14
    have g0_15 := Lib.hid (g0_14.out.step (w' := w15) (fun k h1 h2 => hb.block k (by omega) (by first | exact Or.inl (by omega) | exact Or.inr (by omega))))
    clear g0_14
    have bd00_15 := (World.cell?_of_block (a := ⟨w.heap.size, 0, none⟩) (hb.block (w.heap.size) (by omega) (by first | exact Or.inl (by omega) | exact Or.inr (by omega)))).trans bd00_14
    clear bd00_14
    have bd01_15 := (World.cell?_of_block (a := ⟨w.heap.size, 1, none⟩) (hb.block (w.heap.size) (by omega) (by first | exact Or.inl (by omega) | exact Or.inr (by omega)))).trans bd01_14
    clear bd01_14
    have bd10_15 := (World.cell?_of_block (a := ⟨w.heap.size + 1, 0, none⟩) (hb.block (w.heap.size + 1) (by omega) (by first | exact Or.inl (by omega) | exact Or.inr (by omega)))).trans bd10_14
    clear bd10_14
    have bd11_15 := (World.cell?_of_block (a := ⟨w.heap.size + 1, 1, none⟩) (hb.block (w.heap.size + 1) (by omega) (by first | exact Or.inl (by omega) | exact Or.inr (by omega)))).trans bd11_14
    clear bd11_14
    have bw00_15 := (World.cell?_of_block (a := ⟨uw0, 0, none⟩) (hb.block (uw0) (by omega) (by first | exact Or.inl (by omega) | exact Or.inr (by omega)))).trans bw00_14
    clear bw00_14
    have bw01_15 := (World.cell?_of_block (a := ⟨uw0, 1, none⟩) (hb.block (uw0) (by omega) (by first | exact Or.inl (by omega) | exact Or.inr (by omega)))).trans bw01_14
    clear bw01_14
    have bx00_15 := (World.cell?_of_block (a := ⟨w5.heap.size, 0, none⟩) (hb.block (w5.heap.size) (by omega) (by first | exact Or.inl (by omega) | exact Or.inr (by omega)))).trans bx00_14
    clear bx00_14
    have bx01_15 := (World.cell?_of_block (a := ⟨w5.heap.size, 1, none⟩) (hb.block (w5.heap.size) (by omega) (by first | exact Or.inl (by omega) | exact Or.inr (by omega)))).trans bx01_14
    clear bx01_14
    have bx10_15 := (World.cell?_of_block (a := ⟨w7.heap.size, 0, none⟩) (hb.block (w7.heap.size) (by omega) (by first | exact Or.inl (by omega) | exact Or.inr (by omega)))).trans bx10_14
    clear bx10_14
    have bx11_15 := (World.cell?_of_block (a := ⟨w7.heap.size, 1, none⟩) (hb.block (w7.heap.size) (by omega) (by first | exact Or.inl (by omega) | exact Or.inr (by omega)))).trans bx11_14
    clear bx11_14
    have bg00_15 := (World.cell?_of_block (a := ⟨w9.heap.size, 0, none⟩) (hb.block (w9.heap.size) (by omega) (by first | exact Or.inl (by omega) | exact Or.inr (by omega)))).trans bg00_14
    clear bg00_14
    have bg01_15 := (World.cell?_of_block (a := ⟨w9.heap.size, 1, none⟩) (hb.block (w9.heap.size) (by omega) (by first | exact Or.inl (by omega) | exact Or.inr (by omega)))).trans bg01_14
    clear bg01_14
    clear hb
    have x1_15 := Lib.hid ho
    clear ho x1_14
    have x1HM := Lib.hid x1hM
    clear x1hM
    go_wp2_with fail
    refine (eqD_v w15 (ptRP x0 xs0 x1 xs1) g0_15.out.own.rd w0_15.out.own.rd (HL.out) (by have := HL.out; omega) (fun k hk => by have := row_small HS k hk; omega)).mono ?_
    rintro e w16 ⟨rfl, hb⟩
    have z16 : w15.heap.size ≤ w16.heap.size := hb.size
    have B16 : Below w.heap.size w w16 := B15.trans (hb.mono (by omega))
    have w0_16 := Lib.hid (w0_15.out.step (w' := w16) (fun k h1 h2 => hb.block k (by omega)))
    clear w0_15
    have x0_16 := Lib.hid (x0_15.out.step (w' := w16) (fun k h1 h2 => hb.block k (by omega)))
    clear x0_15
    have x1_16 := Lib.hid (x1_15.out.step (w' := w16) (fun k h1 h2 => hb.block k (by omega)))
    clear x1_15
    have g0_16 := Lib.hid (g0_15.out.step (w' := w16) (fun k h1 h2 => hb.block k (by omega)))
    clear g0_15
    have bd00_16 := (hb.cell (p := ⟨w.heap.size, 0, none⟩) (by show w.heap.size < _; omega)).trans bd00_15
    clear bd00_15
    have bd01_16 := (hb.cell (p := ⟨w.heap.size, 1, none⟩) (by show w.heap.size < _; omega)).trans bd01_15
    clear bd01_15
    have bd10_16 := (hb.cell (p := ⟨w.heap.size + 1, 0, none⟩) (by show w.heap.size + 1 < _; omega)).trans bd10_15
    clear bd10_15
    have bd11_16 := (hb.cell (p := ⟨w.heap.size + 1, 1, none⟩) (by show w.heap.size + 1 < _; omega)).trans bd11_15
    clear bd11_15
    have bw00_16 := (hb.cell (p := ⟨uw0, 0, none⟩) (by show uw0 < _; omega)).trans bw00_15
    clear bw00_15
    have bw01_16 := (hb.cell (p := ⟨uw0, 1, none⟩) (by show uw0 < _; omega)).trans bw01_15
    clear bw01_15
    have bx00_16 := (hb.cell (p := ⟨w5.heap.size, 0, none⟩) (by show w5.heap.size < _; omega)).trans bx00_15
    clear bx00_15
    have bx01_16 := (hb.cell (p := ⟨w5.heap.size, 1, none⟩) (by show w5.heap.size < _; omega)).trans bx01_15
    clear bx01_15
    have bx10_16 := (hb.cell (p := ⟨w7.heap.size, 0, none⟩) (by show w7.heap.size < _; omega)).trans bx10_15
    clear bx10_15
    have bx11_16 := (hb.cell (p := ⟨w7.heap.size, 1, none⟩) (by show w7.heap.size < _; omega)).trans bx11_15
    clear bx11_15
    have bg00_16 := (hb.cell (p := ⟨w9.heap.size, 0, none⟩) (by show w9.heap.size < _; omega)).trans bg00_15
    clear bg00_15
    have bg01_16 := (hb.cell (p := ⟨w9.heap.size, 1, none⟩) (by show w9.heap.size < _; omega)).trans bg01_15
    clear bg01_15
    clear hb
    go_wp2_with fail
    refine (markD_v w16 (ptRP x0 xs0 x1 xs1) (1) g0_16.out (HL.out) (by omega) (by omega)).mono ?_
    rintro e w17 ⟨rfl, ⟨g0Y, ho, g0hM⟩, hb⟩
    have z17 : w16.heap.size ≤ w17.heap.size := hb.size
    have B17 : Below w.heap.size w w17 := B16.trans (hb.below (by omega) (by omega))
    have w0_17 := Lib.hid (w0_16.out.step (w' := w17) (fun k h1 h2 => hb.block k (by omega) (by first | exact Or.inl (by omega) | exact Or.inr (by omega))))
    clear w0_16
    have x0_17 := Lib.hid (x0_16.out.step (w' := w17) (fun k h1 h2 => hb.block k (by omega) (by first | exact Or.inl (by omega) | exact Or.inr (by omega))))
    clear x0_16
    have x1_17 := Lib.hid (x1_16.out.step (w' := w17) (fun k h1 h2 => hb.block k (by omega) (by first | exact Or.inl (by omega) | exact Or.inr (by omega))))
    clear x1_16
    have bd00_17 := (World.cell?_of_block (a := ⟨w.heap.size, 0, none⟩) (hb.block (w.heap.size) (by omega) (by first | exact Or.inl (by omega) | exact Or.inr (by omega)))).trans bd00_16
    clear bd00_16
    have bd01_17 := (World.cell?_of_block (a := ⟨w.heap.size, 1, none⟩) (hb.block (w.heap.size) (by omega) (by first | exact Or.inl (by omega) | exact Or.inr (by omega)))).trans bd01_16
    clear bd01_16
    have bd10_17 := (World.cell?_of_block (a := ⟨w.heap.size + 1, 0, none⟩) (hb.block (w.heap.size + 1) (by omega) (by first | exact Or.inl (by omega) | exact Or.inr (by omega)))).trans bd10_16
    clear bd10_16
    have bd11_17 := (World.cell?_of_block (a := ⟨w.heap.size + 1, 1, none⟩) (hb.block (w.heap.size + 1) (by omega) (by first | exact Or.inl (by omega) | exact Or.inr (by omega)))).trans bd11_16
    clear bd11_16
    have bw00_17 := (World.cell?_of_block (a := ⟨uw0, 0, none⟩) (hb.block (uw0) (by omega) (by first | exact Or.inl (by omega) | exact Or.inr (by omega)))).trans bw00_16
    clear bw00_16
    have bw01_17 := (World.cell?_of_block (a := ⟨uw0, 1, none⟩) (hb.block (uw0) (by omega) (by first | exact Or.inl (by omega) | exact Or.inr (by omega)))).trans bw01_16
    clear bw01_16
    have bx00_17 := (World.cell?_of_block (a := ⟨w5.heap.size, 0, none⟩) (hb.block (w5.heap.size) (by omega) (by first | exact Or.inl (by omega) | exact Or.inr (by omega)))).trans bx00_16
    clear bx00_16
    have bx01_17 := (World.cell?_of_block (a := ⟨w5.heap.size, 1, none⟩) (hb.block (w5.heap.size) (by omega) (by first | exact Or.inl (by omega) | exact Or.inr (by omega)))).trans bx01_16
    clear bx01_16
    have bx10_17 := (World.cell?_of_block (a := ⟨w7.heap.size, 0, none⟩) (hb.block (w7.heap.size) (by omega) (by first | exact Or.inl (by omega) | exact Or.inr (by omega)))).trans bx10_16
    clear bx10_16
    have bx11_17 := (World.cell?_of_block (a := ⟨w7.heap.size, 1, none⟩) (hb.block (w7.heap.size) (by omega) (by first | exact Or.inl (by omega) | exact Or.inr (by omega)))).trans bx11_16
    clear bx11_16
    have bg00_17 := (World.cell?_of_block (a := ⟨w9.heap.size, 0, none⟩) (hb.block (w9.heap.size) (by omega) (by first | exact Or.inl (by omega) | exact Or.inr (by omega)))).trans bg00_16
    clear bg00_16
    have bg01_17 := (World.cell?_of_block (a := ⟨w9.heap.size, 1, none⟩) (hb.block (w9.heap.size) (by omega) (by first | exact Or.inl (by omega) | exact Or.inr (by omega)))).trans bg01_16
    clear bg01_16
    clear hb
    have g0_17 := Lib.hid ho
    clear ho g0_16
    have g0HM := Lib.hid g0hM
    clear g0hM
    go_wp2_with fail
    refine (heldD_v w17 (ptRP x0 xs0 x1 xs1) (1) g0_17.out.own.rd (g0HM.out) (HL.out) (by omega) (by omega)).mono ?_
    rintro e w18 ⟨rfl, hb⟩
    have z18 : w17.heap.size ≤ w18.heap.size := hb.size
    have B18 : Below w.heap.size w w18 := B17.trans (hb.mono (by omega))
    have w0_18 := Lib.hid (w0_17.out.step (w' := w18) (fun k h1 h2 => hb.block k (by omega)))
    clear w0_17
    have x0_18 := Lib.hid (x0_17.out.step (w' := w18) (fun k h1 h2 => hb.block k (by omega)))
    clear x0_17
    have x1_18 := Lib.hid (x1_17.out.step (w' := w18) (fun k h1 h2 => hb.block k (by omega)))
    clear x1_17
    have g0_18 := Lib.hid (g0_17.out.step (w' := w18) (fun k h1 h2 => hb.block k (by omega)))
    clear g0_17
    have bd00_18 := (hb.cell (p := ⟨w.heap.size, 0, none⟩) (by show w.heap.size < _; omega)).trans bd00_17
    clear bd00_17
    have bd01_18 := (hb.cell (p := ⟨w.heap.size, 1, none⟩) (by show w.heap.size < _; omega)).trans bd01_17
    clear bd01_17
    have bd10_18 := (hb.cell (p := ⟨w.heap.size + 1, 0, none⟩) (by show w.heap.size + 1 < _; omega)).trans bd10_17
    clear bd10_17
    have bd11_18 := (hb.cell (p := ⟨w.heap.size + 1, 1, none⟩) (by show w.heap.size + 1 < _; omega)).trans bd11_17
    clear bd11_17
    have bw00_18 := (hb.cell (p := ⟨uw0, 0, none⟩) (by show uw0 < _; omega)).trans bw00_17
    clear bw00_17
    have bw01_18 := (hb.cell (p := ⟨uw0, 1, none⟩) (by show uw0 < _; omega)).trans bw01_17
    clear bw01_17
    have bx00_18 := (hb.cell (p := ⟨w5.heap.size, 0, none⟩) (by show w5.heap.size < _; omega)).trans bx00_17
    clear bx00_17
    have bx01_18 := (hb.cell (p := ⟨w5.heap.size, 1, none⟩) (by show w5.heap.size < _; omega)).trans bx01_17
    clear bx01_17
    have bx10_18 := (hb.cell (p := ⟨w7.heap.size, 0, none⟩) (by show w7.heap.size < _; omega)).trans bx10_17
    clear bx10_17
    have bx11_18 := (hb.cell (p := ⟨w7.heap.size, 1, none⟩) (by show w7.heap.size < _; omega)).trans bx11_17
    clear bx11_17
    have bg00_18 := (hb.cell (p := ⟨w9.heap.size, 0, none⟩) (by show w9.heap.size < _; omega)).trans bg00_17
    clear bg00_17
    have bg01_18 := (hb.cell (p := ⟨w9.heap.size, 1, none⟩) (by show w9.heap.size < _; omega)).trans bg01_17
    clear bg01_17
    clear hb
    go_wp2_with fail
    have HE0 := Lib.hid (fun (w' : World) (hb : Below w18.heap.size w18 w') => toD w' x0 A0 n0 c0 R0 xs0 ((HR0.out).below (B18.trans (hb.mono (by omega)))) (HN0.out) (by omega) (fun k hk => by have := row_small HT0 k (by rw [HN0.out]; exact hk); omega))
    have HE1 := Lib.hid (fun (w' : World) (hb : Below w18.heap.size w18 w') => toD w' x1 A1 n1 c1 R1 xs1 ((HR1.out).below (B18.trans (hb.mono (by omega)))) (HN1.out) (by omega) (fun k hk => by have := row_small HT1 k (by rw [HN1.out]; exact hk); omega))
    have HSk := Lib.hid (fun (w' : World) (hb : Below w18.heap.size w18 w') => (show w'.cell? ⟨w.heap.size, 0, none⟩ = some (.int .i64 x0) ∧ w'.cell? ⟨w.heap.size, 1, none⟩ = some (.slice A0 n0 c0) ∧ w'.cell? ⟨w.heap.size + 1, 0, none⟩ = some (.int .i64 x1) ∧ w'.cell? ⟨w.heap.size + 1, 1, none⟩ = some (.slice A1 n1 c1) from ⟨(hb.cell (p := ⟨w.heap.size, 0, none⟩) (by show w.heap.size < w18.heap.size; omega)).trans bd00_18, (hb.cell (p := ⟨w.heap.size, 1, none⟩) (by show w.heap.size < w18.heap.size; omega)).trans bd01_18, (hb.cell (p := ⟨w.heap.size + 1, 0, none⟩) (by show w.heap.size + 1 < w18.heap.size; omega)).trans bd10_18, (hb.cell (p := ⟨w.heap.size + 1, 1, none⟩) (by show w.heap.size + 1 < w18.heap.size; omega)).trans bd11_18⟩))
    have hS := Lib.hid (show Below w18.heap.size w18 w18.drew from (Below.refl w18.heap.size w18).drew)
    have hSy := fun o => (Below.refl w18.heap.size w18).alloc (Nat.le_refl w18.heap.size) o
    have hSz := fun o => (show Below w18.heap.size w18 (w18.alloc o).drew from (hSy o).drew)
    have hzD := zeroD
    go_region_held3 (fun w' => w'.cell? ⟨w.heap.size, 0, none⟩ = some (.int .i64 x0) ∧ w'.cell? ⟨w.heap.size, 1, none⟩ = some (.slice A0 n0 c0) ∧ w'.cell? ⟨w.heap.size + 1, 0, none⟩ = some (.int .i64 x1) ∧ w'.cell? ⟨w.heap.size + 1, 1, none⟩ = some (.slice A1 n1 c1)) (first | exact HSk.out _ (Below.refl _ _) | exact HSk.out _ hS.out | exact HSk.out _ (hSy _) | exact HSk.out _ (hSz _) | exact HSk.out _ hS0.out | exact HSk.out _ (hS0z _) | exact HSk.out _ hS1.out | exact HSk.out _ (hS1z _) | exact HSk.out _ hSd.out | exact HSk.out _ (below_set2 hSd.out hgB) | exact HSk.out _ (hSdz _) | exact HSk.out _ (below_set2 (hSdz _) hSd.out.size))
      (first | (go_at_call 22; (with_reducible refine (HE0.out w18.drew hS.out).mono ?_); rintro e u0 ⟨⟨z0A, z0R, rfl, ho⟩, hb⟩; have hp0 := Lib.hid ho; have hS0 := Lib.hid (hS.out.trans (hb.mono hS.out.size)); have hS0z := fun o => hS0.out.alloc hS0.out.size o; clear ho hb) | (go_at_call 22; (with_reducible refine (HE0.out (w18.alloc (.cells #[.int .i64 0, .slice none 0 0] 26)).drew (hSz (.cells #[.int .i64 0, .slice none 0 0] 26))).mono ?_); rintro e u0 ⟨⟨z0A, z0R, rfl, ho⟩, hb⟩; have hp0 := Lib.hid ho; have hS0 := Lib.hid ((hSz (.cells #[.int .i64 0, .slice none 0 0] 26)).trans (hb.mono (hSz (.cells #[.int .i64 0, .slice none 0 0] 26)).size)); have hS0z := fun o => hS0.out.alloc hS0.out.size o; have rzB := (show RBox (w18.alloc (.cells #[.int .i64 0, .slice none 0 0] 26)).drew w18.heap.size from (RBox.made w18 26).drewN 1).step (lo := (w18.alloc (.cells #[.int .i64 0, .slice none 0 0] 26)).drew.heap.size) (show w18.heap.size < (w18.alloc (.cells #[.int .i64 0, .slice none 0 0] 26)).heap.size by simp) hb; have hgB : w18.heap.size ≤ w18.heap.size := Nat.le_refl _; clear ho hb) | (go_at_call 22; (with_reducible refine (HE1.out u0 hS0.out).mono ?_); rintro e u1 ⟨⟨z1A, z1R, rfl, ho⟩, hb⟩; have hp1 := Lib.hid ho; have hq0 := Lib.hid (hp0.out.below hb); have hS1 := Lib.hid (hS0.out.trans (hb.mono hS0.out.size)); have hS1z := fun o => hS1.out.alloc hS1.out.size o; (try (have rzC := RBox.step rzB (RBox.lt rzB) hb)); clear ho hb) | (go_at_call 22; (with_reducible refine (HE1.out (u0.alloc (.cells #[.int .i64 0, .slice none 0 0] 26)) (hS0z (.cells #[.int .i64 0, .slice none 0 0] 26))).mono ?_); rintro e u1 ⟨⟨z1A, z1R, rfl, ho⟩, hb⟩; have hp1 := Lib.hid ho; have hq0 := Lib.hid ((hp0.out.alloc (.cells #[.int .i64 0, .slice none 0 0] 26)).below hb); have hS1 := Lib.hid ((hS0z (.cells #[.int .i64 0, .slice none 0 0] 26)).trans (hb.mono (hS0z (.cells #[.int .i64 0, .slice none 0 0] 26)).size)); have hS1z := fun o => hS1.out.alloc hS1.out.size o; have rzC := (RBox.made u0 26).step (lo := (u0.alloc (.cells #[.int .i64 0, .slice none 0 0] 26)).heap.size) (by simp) hb; have hgB := hS0.out.size; clear ho hb) | (go_at_call 23; (with_reducible refine (implProductTriples_c u1 x0 hb0 z0A n0 n0 z0R xs0 hq0.out.rd (HN0.out) hw0 (by omega) x1 hb1 z1A n1 n1 z1R xs1 hp1.out.rd (HN1.out) hw1 (by omega)).mono ?_); rintro e u9 ⟨⟨h0A, h0n, h0c, h0R, rfl, h0hn, ho⟩, hb⟩; have hSd := Lib.hid (hS1.out.trans (hb.mono hS1.out.size)); have hSdz := fun o => hSd.out.alloc hSd.out.size o; (try (have rzD := RBox.step rzC (RBox.lt rzC) hb; have hgL := RBox.lt rzC; have z0 := rzD.c0; have z1 := rzD.c1; have y0 := rzD.f0; have y1 := rzD.f1)); have hU1 := hS1.out.size) | (go_at_call 23; (with_reducible refine (implProductTriples_c (u1.alloc (.cells #[.int .i64 0, .slice none 0 0] 26)) x0 hb0 z0A n0 n0 z0R xs0 (hq0.out.alloc (.cells #[.int .i64 0, .slice none 0 0] 26)).rd (HN0.out) hw0 (by omega) x1 hb1 z1A n1 n1 z1R xs1 (hp1.out.alloc (.cells #[.int .i64 0, .slice none 0 0] 26)).rd (HN1.out) hw1 (by omega)).mono ?_); rintro e u9 ⟨⟨h0A, h0n, h0c, h0R, rfl, h0hn, ho⟩, hb⟩; have hSd := Lib.hid ((hS1z (.cells #[.int .i64 0, .slice none 0 0] 26)).trans (hb.mono (hS1z (.cells #[.int .i64 0, .slice none 0 0] 26)).size)); have hSdz := fun o => hSd.out.alloc hSd.out.size o; have rzD := (RBox.made u1 26).step (lo := (u1.alloc (.cells #[.int .i64 0, .slice none 0 0] 26)).heap.size) (by simp) hb; have hgB := hS1.out.size; have hgL : u1.heap.size + 1 ≤ (u1.alloc (.cells #[.int .i64 0, .slice none 0 0] 26)).heap.size := (by simp); have z0 := rzD.c0; have z1 := rzD.c1; have y0 := rzD.f0; have y1 := rzD.f1; have hU1 := hS1.out.size))
    all_goals (
      obtain rfl : w0n = h0n := HL.out.symm.trans h0hn
      clear h0hn
      first | (have rzE : RBox u9 w18.heap.size := rzD; have ho := own_set2 (lo := w18.heap.size) (B := w18.heap.size) (ho.lower (lo' := w18.heap.size + 1) hgL) (Nat.le_succ_of_le hgB) (.int .i64 (ptRP x0 xs0 x1 xs1)) (.slice h0A w0n h0c); have hb := below_set2 (u0 := .int .i64 (ptRP x0 xs0 x1 xs1)) (u1 := .slice h0A w0n h0c) (g := w18.heap.size) hSd.out hgB; obtain ⟨bh00_19, bh01_19⟩ := rzE.read (.int .i64 (ptRP x0 xs0 x1 xs1)) (.slice h0A w0n h0c); have qh0 : w18.heap.size < ((u9.setCell ⟨w18.heap.size, 0, none⟩ (.int .i64 (ptRP x0 xs0 x1 xs1))).setCell ⟨w18.heap.size, 1, none⟩ (.slice h0A w0n h0c)).heap.size := (by have := rzE.lt; simpa [World.setCell] using this); generalize ((u9.setCell ⟨w18.heap.size, 0, none⟩ (.int .i64 (ptRP x0 xs0 x1 xs1))).setCell ⟨w18.heap.size, 1, none⟩ (.slice h0A w0n h0c)) = w19 at *; obtain ⟨uh0, huh0⟩ : ∃ u, u = w18.heap.size := ⟨_, rfl⟩; have zuh0 : w18.heap.size ≤ uh0 := (by rw [huh0]; exact hgB); rw [← huh0] at bh00_19 bh01_19 qh0; try rw [← huh0]) | (have rzE : RBox u9 u0.heap.size := rzD; have ho := own_set2 (lo := w18.heap.size) (B := u0.heap.size) (ho.lower (lo' := u0.heap.size + 1) hgL) (Nat.le_succ_of_le hgB) (.int .i64 (ptRP x0 xs0 x1 xs1)) (.slice h0A w0n h0c); have hb := below_set2 (u0 := .int .i64 (ptRP x0 xs0 x1 xs1)) (u1 := .slice h0A w0n h0c) (g := u0.heap.size) hSd.out hgB; obtain ⟨bh00_19, bh01_19⟩ := rzE.read (.int .i64 (ptRP x0 xs0 x1 xs1)) (.slice h0A w0n h0c); have qh0 : u0.heap.size < ((u9.setCell ⟨u0.heap.size, 0, none⟩ (.int .i64 (ptRP x0 xs0 x1 xs1))).setCell ⟨u0.heap.size, 1, none⟩ (.slice h0A w0n h0c)).heap.size := (by have := rzE.lt; simpa [World.setCell] using this); generalize ((u9.setCell ⟨u0.heap.size, 0, none⟩ (.int .i64 (ptRP x0 xs0 x1 xs1))).setCell ⟨u0.heap.size, 1, none⟩ (.slice h0A w0n h0c)) = w19 at *; obtain ⟨uh0, huh0⟩ : ∃ u, u = u0.heap.size := ⟨_, rfl⟩; have zuh0 : w18.heap.size ≤ uh0 := (by rw [huh0]; exact hgB); rw [← huh0] at bh00_19 bh01_19 qh0; try rw [← huh0]) | (have rzE : RBox u9 u1.heap.size := rzD; have ho := own_set2 (lo := w18.heap.size) (B := u1.heap.size) (ho.lower (lo' := u1.heap.size + 1) hgL) (Nat.le_succ_of_le hgB) (.int .i64 (ptRP x0 xs0 x1 xs1)) (.slice h0A w0n h0c); have hb := below_set2 (u0 := .int .i64 (ptRP x0 xs0 x1 xs1)) (u1 := .slice h0A w0n h0c) (g := u1.heap.size) hSd.out hgB; obtain ⟨bh00_19, bh01_19⟩ := rzE.read (.int .i64 (ptRP x0 xs0 x1 xs1)) (.slice h0A w0n h0c); have qh0 : u1.heap.size < ((u9.setCell ⟨u1.heap.size, 0, none⟩ (.int .i64 (ptRP x0 xs0 x1 xs1))).setCell ⟨u1.heap.size, 1, none⟩ (.slice h0A w0n h0c)).heap.size := (by have := rzE.lt; simpa [World.setCell] using this); generalize ((u9.setCell ⟨u1.heap.size, 0, none⟩ (.int .i64 (ptRP x0 xs0 x1 xs1))).setCell ⟨u1.heap.size, 1, none⟩ (.slice h0A w0n h0c)) = w19 at *; obtain ⟨uh0, huh0⟩ : ∃ u, u = u1.heap.size := ⟨_, rfl⟩; have zuh0 : w18.heap.size ≤ uh0 := (by rw [huh0]; exact hgB); rw [← huh0] at bh00_19 bh01_19 qh0; try rw [← huh0]) | (have ho := (ho.lower (lo' := w18.heap.size) hU1).alloc (.cells #[.int .i64 (ptRP x0 xs0 x1 xs1), .slice h0A w0n h0c] 26); have hb := hSdz (.cells #[.int .i64 (ptRP x0 xs0 x1 xs1), .slice h0A w0n h0c] 26); have bh00_19 : (u9.alloc (.cells #[.int .i64 (ptRP x0 xs0 x1 xs1), .slice h0A w0n h0c] 26)).cell? ⟨u9.heap.size, 0, none⟩ = some (.int .i64 (ptRP x0 xs0 x1 xs1)) := (by simp [go_sem]); have bh01_19 : (u9.alloc (.cells #[.int .i64 (ptRP x0 xs0 x1 xs1), .slice h0A w0n h0c] 26)).cell? ⟨u9.heap.size, 1, none⟩ = some (.slice h0A w0n h0c) := (by simp [go_sem]); have qh0 : u9.heap.size < (u9.alloc (.cells #[.int .i64 (ptRP x0 xs0 x1 xs1), .slice h0A w0n h0c] 26)).heap.size := (by simp); generalize (u9.alloc (.cells #[.int .i64 (ptRP x0 xs0 x1 xs1), .slice h0A w0n h0c] 26)) = w19 at *; obtain ⟨uh0, huh0⟩ : ∃ u, u = u9.heap.size := ⟨_, rfl⟩; have zuh0 : w18.heap.size ≤ uh0 := (by rw [huh0]; exact hSd.out.size); rw [← huh0] at bh00_19 bh01_19 qh0; try rw [← huh0])
      clear hS hSy hSz hS0 hS0z hS1 hS1z hSd hSdz HSk HE0 HE1 hp0 hp1 hq0 hzD hU1 huh0
      have z19 : w18.heap.size ≤ w19.heap.size := hb.size
      have B19 : Below w.heap.size w w19 := B18.trans (hb.mono (by omega))
      have w0_19 := Lib.hid (w0_18.out.step (w' := w19) (fun k h1 h2 => hb.block k (by omega)))
      clear w0_18
      have x0_19 := Lib.hid (x0_18.out.step (w' := w19) (fun k h1 h2 => hb.block k (by omega)))
      clear x0_18
      have x1_19 := Lib.hid (x1_18.out.step (w' := w19) (fun k h1 h2 => hb.block k (by omega)))
      clear x1_18
      have g0_19 := Lib.hid (g0_18.out.step (w' := w19) (fun k h1 h2 => hb.block k (by omega)))
      clear g0_18
      have bd00_19 := (hb.cell (p := ⟨w.heap.size, 0, none⟩) (by show w.heap.size < _; omega)).trans bd00_18
      clear bd00_18
      have bd01_19 := (hb.cell (p := ⟨w.heap.size, 1, none⟩) (by show w.heap.size < _; omega)).trans bd01_18
      clear bd01_18
      have bd10_19 := (hb.cell (p := ⟨w.heap.size + 1, 0, none⟩) (by show w.heap.size + 1 < _; omega)).trans bd10_18
      clear bd10_18
      have bd11_19 := (hb.cell (p := ⟨w.heap.size + 1, 1, none⟩) (by show w.heap.size + 1 < _; omega)).trans bd11_18
      clear bd11_18
      have bw00_19 := (hb.cell (p := ⟨uw0, 0, none⟩) (by show uw0 < _; omega)).trans bw00_18
      clear bw00_18
      have bw01_19 := (hb.cell (p := ⟨uw0, 1, none⟩) (by show uw0 < _; omega)).trans bw01_18
      clear bw01_18
      have bx00_19 := (hb.cell (p := ⟨w5.heap.size, 0, none⟩) (by show w5.heap.size < _; omega)).trans bx00_18
      clear bx00_18
      have bx01_19 := (hb.cell (p := ⟨w5.heap.size, 1, none⟩) (by show w5.heap.size < _; omega)).trans bx01_18
      clear bx01_18
      have bx10_19 := (hb.cell (p := ⟨w7.heap.size, 0, none⟩) (by show w7.heap.size < _; omega)).trans bx10_18
      clear bx10_18
      have bx11_19 := (hb.cell (p := ⟨w7.heap.size, 1, none⟩) (by show w7.heap.size < _; omega)).trans bx11_18
      clear bx11_18
      have bg00_19 := (hb.cell (p := ⟨w9.heap.size, 0, none⟩) (by show w9.heap.size < _; omega)).trans bg00_18
      clear bg00_18
      have bg01_19 := (hb.cell (p := ⟨w9.heap.size, 1, none⟩) (by show w9.heap.size < _; omega)).trans bg01_18
      clear bg01_18
      clear hb
      have h0_19 := Lib.hid ho.in_
      clear ho
      go_wp2_with fail
      refine (eqD_v w19 (ptRP x0 xs0 x1 xs1) h0_19.out.own.rd w0_19.out.own.rd (HL.out) (by have := HL.out; omega) (fun k hk => by have := row_small HS k hk; omega)).mono ?_
      rintro e w20 ⟨rfl, hb⟩
      have z20 : w19.heap.size ≤ w20.heap.size := hb.size
      have B20 : Below w.heap.size w w20 := B19.trans (hb.mono (by omega))
      have w0_20 := Lib.hid (w0_19.out.step (w' := w20) (fun k h1 h2 => hb.block k (by omega)))
      clear w0_19
      have x0_20 := Lib.hid (x0_19.out.step (w' := w20) (fun k h1 h2 => hb.block k (by omega)))
      clear x0_19
      have x1_20 := Lib.hid (x1_19.out.step (w' := w20) (fun k h1 h2 => hb.block k (by omega)))
      clear x1_19
      have g0_20 := Lib.hid (g0_19.out.step (w' := w20) (fun k h1 h2 => hb.block k (by omega)))
      clear g0_19
      have h0_20 := Lib.hid (h0_19.out.step (w' := w20) (fun k h1 h2 => hb.block k (by omega)))
      clear h0_19
      have bd00_20 := (hb.cell (p := ⟨w.heap.size, 0, none⟩) (by show w.heap.size < _; omega)).trans bd00_19
      clear bd00_19
      have bd01_20 := (hb.cell (p := ⟨w.heap.size, 1, none⟩) (by show w.heap.size < _; omega)).trans bd01_19
      clear bd01_19
      have bd10_20 := (hb.cell (p := ⟨w.heap.size + 1, 0, none⟩) (by show w.heap.size + 1 < _; omega)).trans bd10_19
      clear bd10_19
      have bd11_20 := (hb.cell (p := ⟨w.heap.size + 1, 1, none⟩) (by show w.heap.size + 1 < _; omega)).trans bd11_19
      clear bd11_19
      have bw00_20 := (hb.cell (p := ⟨uw0, 0, none⟩) (by show uw0 < _; omega)).trans bw00_19
      clear bw00_19
      have bw01_20 := (hb.cell (p := ⟨uw0, 1, none⟩) (by show uw0 < _; omega)).trans bw01_19
      clear bw01_19
      have bx00_20 := (hb.cell (p := ⟨w5.heap.size, 0, none⟩) (by show w5.heap.size < _; omega)).trans bx00_19
      clear bx00_19
      have bx01_20 := (hb.cell (p := ⟨w5.heap.size, 1, none⟩) (by show w5.heap.size < _; omega)).trans bx01_19
      clear bx01_19
      have bx10_20 := (hb.cell (p := ⟨w7.heap.size, 0, none⟩) (by show w7.heap.size < _; omega)).trans bx10_19
      clear bx10_19
      have bx11_20 := (hb.cell (p := ⟨w7.heap.size, 1, none⟩) (by show w7.heap.size < _; omega)).trans bx11_19
      clear bx11_19
      have bg00_20 := (hb.cell (p := ⟨w9.heap.size, 0, none⟩) (by show w9.heap.size < _; omega)).trans bg00_19
      clear bg00_19
      have bg01_20 := (hb.cell (p := ⟨w9.heap.size, 1, none⟩) (by show w9.heap.size < _; omega)).trans bg01_19
      clear bg01_19
      have bh00_20 := (hb.cell (p := ⟨uh0, 0, none⟩) (by show uh0 < _; omega)).trans bh00_19
      clear bh00_19
      have bh01_20 := (hb.cell (p := ⟨uh0, 1, none⟩) (by show uh0 < _; omega)).trans bh01_19
      clear bh01_19
      clear hb
      go_wp2_with fail
      refine (heldD_v w20 (ptRP x0 xs0 x1 xs1) (1) g0_20.out.own.rd (g0HM.out) (HL.out) (by omega) (by omega)).mono ?_
      rintro e w21 ⟨rfl, hb⟩
      have z21 : w20.heap.size ≤ w21.heap.size := hb.size
      have B21 : Below w.heap.size w w21 := B20.trans (hb.mono (by omega))
      have w0_21 := Lib.hid (w0_20.out.step (w' := w21) (fun k h1 h2 => hb.block k (by omega)))
      clear w0_20
      have x0_21 := Lib.hid (x0_20.out.step (w' := w21) (fun k h1 h2 => hb.block k (by omega)))
      clear x0_20
      have x1_21 := Lib.hid (x1_20.out.step (w' := w21) (fun k h1 h2 => hb.block k (by omega)))
      clear x1_20
      have g0_21 := Lib.hid (g0_20.out.step (w' := w21) (fun k h1 h2 => hb.block k (by omega)))
      clear g0_20
      have h0_21 := Lib.hid (h0_20.out.step (w' := w21) (fun k h1 h2 => hb.block k (by omega)))
      clear h0_20
      have bd00_21 := (hb.cell (p := ⟨w.heap.size, 0, none⟩) (by show w.heap.size < _; omega)).trans bd00_20
      clear bd00_20
      have bd01_21 := (hb.cell (p := ⟨w.heap.size, 1, none⟩) (by show w.heap.size < _; omega)).trans bd01_20
      clear bd01_20
      have bd10_21 := (hb.cell (p := ⟨w.heap.size + 1, 0, none⟩) (by show w.heap.size + 1 < _; omega)).trans bd10_20
      clear bd10_20
      have bd11_21 := (hb.cell (p := ⟨w.heap.size + 1, 1, none⟩) (by show w.heap.size + 1 < _; omega)).trans bd11_20
      clear bd11_20
      have bw00_21 := (hb.cell (p := ⟨uw0, 0, none⟩) (by show uw0 < _; omega)).trans bw00_20
      clear bw00_20
      have bw01_21 := (hb.cell (p := ⟨uw0, 1, none⟩) (by show uw0 < _; omega)).trans bw01_20
      clear bw01_20
      have bx00_21 := (hb.cell (p := ⟨w5.heap.size, 0, none⟩) (by show w5.heap.size < _; omega)).trans bx00_20
      clear bx00_20
      have bx01_21 := (hb.cell (p := ⟨w5.heap.size, 1, none⟩) (by show w5.heap.size < _; omega)).trans bx01_20
      clear bx01_20
      have bx10_21 := (hb.cell (p := ⟨w7.heap.size, 0, none⟩) (by show w7.heap.size < _; omega)).trans bx10_20
      clear bx10_20
      have bx11_21 := (hb.cell (p := ⟨w7.heap.size, 1, none⟩) (by show w7.heap.size < _; omega)).trans bx11_20
      clear bx11_20
      have bg00_21 := (hb.cell (p := ⟨w9.heap.size, 0, none⟩) (by show w9.heap.size < _; omega)).trans bg00_20
      clear bg00_20
      have bg01_21 := (hb.cell (p := ⟨w9.heap.size, 1, none⟩) (by show w9.heap.size < _; omega)).trans bg01_20
      clear bg01_20
      have bh00_21 := (hb.cell (p := ⟨uh0, 0, none⟩) (by show uh0 < _; omega)).trans bh00_20
      clear bh00_20
      have bh01_21 := (hb.cell (p := ⟨uh0, 1, none⟩) (by show uh0 < _; omega)).trans bh01_20
      clear bh01_20
      clear hb
      go_wp2
      go_ret
      exact ⟨rfl, B21⟩
    )
  )

theorem walk (w : World) (x0 : Int) (hb0 : -9223372036854775808 ≤ x0 ∧ x0 ≤ 9223372036854775807) (A0 : Option Addr) (n0 c0 : Nat) (R0 : Spine) (xs0 : List (List Int)) (hr0 : RdM w A0 c0 R0 xs0) (hn0 : xs0.length = n0) (hw0 : WfM xs0) (x1 : Int) (hb1 : -9223372036854775808 ≤ x1 ∧ x1 ≤ 9223372036854775807) (A1 : Option Addr) (n1 c1 : Nat) (R1 : Spine) (xs1 : List (List Int)) (hr1 : RdM w A1 c1 R1 xs1) (hn1 : xs1.length = n1) (hw1 : WfM xs1) :
    Calls Try.prog 5 #[.agg #[.int .i64 x0, .slice A0 n0 c0], .agg #[.int .i64 x1, .slice A1 n1 c1]] w fun e w' => e = .returned (.bool true) ∧ Below w.heap.size w w' := by
  rcases Int.lt_or_le 1048576 (((n0 : Int) + (tot xs0 : Nat))) with h0 | h0
  · exact walkOut0 w x0 hb0 A0 n0 c0 R0 xs0 hr0 hn0 hw0 x1 hb1 A1 n1 c1 R1 xs1 hr1 hn1 hw1  h0
  rcases Int.lt_or_le 1048576 (((n0 : Int) + (tot xs0 : Nat)) + ((n1 : Int) + (tot xs1 : Nat))) with h1 | h1
  · exact walkOut1 w x0 hb0 A0 n0 c0 R0 xs0 hr0 hn0 hw0 x1 hb1 A1 n1 c1 R1 xs1 hr1 hn1 hw1 h0 h1
  exact walkIn w x0 hb0 A0 n0 c0 R0 xs0 hr0 hn0 hw0 x1 hb1 A1 n1 c1 R1 xs1 hr1 hn1 hw1 h0 h1

end Go.Proofs.Ytamklliaibfljaa.lawProductTriples
