/-
  The program's DevelopFamily returns what the reference's returns: the statement FnExactDevelopFamilySaid. Conditions: none.
-/
import Derived.Test.YtdcegepkgcflpaaRows
import Derived.Test.YtdcegepkgcflpaaDev
import Derived.Test.YtdcegepkgcflpaaDFrame
import Derived.Test.YtdcegepkgcflpaaDsg
import Derived.Deep.RegionHeld3
namespace Go.Proofs.Ytdcegepkgcflpaa.lawDevelopFamily
open Go.ChangeShapes Go.WideShapes Go.ChangeAt Go.RowKit Go.Deep
set_option linter.unusedVariables false
set_option linter.unusedSimpArgs false

theorem own : ownKnob Try.prog.godebug = none := by kernel_rfl
theorem laidOut : laidOutB Try.prog = true := by kernel_rfl

set_option maxHeartbeats 400000 in
theorem walkOut1 (w : World) (x0 : Int) (hb0 : -9223372036854775808 ≤ x0 ∧ x0 ≤ 9223372036854775807) (A1 : Option Addr) (n1 c1 : Nat) (R1 : Spine) (xs1 : List (List Int)) (hr1 : RdM w A1 c1 R1 xs1) (hn1 : xs1.length = n1) (hw1 : WfM xs1) (hz : 1048576 < ((n1 : Int) + (tot xs1 : Nat))) :
    Calls Try.prog 3 #[.int .i64 x0, .slice A1 n1 c1] w fun e w' => e = .returned (.bool true) ∧ Below w.heap.size w w' := by
  have HR1 := Lib.hid hr1
  have HN1 := Lib.hid hn1
  have hm1 : n1 ≤ 9223372036854775807 := by have h1 := hr1.le; have h2 := hr1.cap; unfold maxLen at h2; omega
  clear hr1 hn1
  go_enter Try.func3, Try.ntmps3
  go_wp2_with fail
  refine (szSS_out _ A1 n1 c1 xs1 (1048576) ((HN1.out) ▸ (HR1.out).atL) (HN1.out) (by omega) (by omega) (by omega) (by omega)).mono ?_
  rintro e w' ⟨rfl, rfl⟩
  go_wp2
  go_ret
  exact ⟨rfl, Below.refl _ _⟩

set_option maxHeartbeats 4000000 in
set_option maxRecDepth 100000 in
theorem walkIn (w : World) (x0 : Int) (hb0 : -9223372036854775808 ≤ x0 ∧ x0 ≤ 9223372036854775807) (A1 : Option Addr) (n1 c1 : Nat) (R1 : Spine) (xs1 : List (List Int)) (hr1 : RdM w A1 c1 R1 xs1) (hn1 : xs1.length = n1) (hw1 : WfM xs1) (hz1 : ((n1 : Int) + (tot xs1 : Nat)) ≤ 1048576) :
    Calls Try.prog 3 #[.int .i64 x0, .slice A1 n1 c1] w fun e w' => e = .returned (.bool true) ∧ Below w.heap.size w w' := by
  have hsmall : (dvX x0 xs1).length ≤ 1048576 := (DevelopFamily_small x0 xs1).1
  have HS : tot (dvX x0 xs1) ≤ 1048576 := (DevelopFamily_small x0 xs1).2
  have HT1 : tot xs1 ≤ 1048576 := by omega
  have HR1 := Lib.hid hr1
  have HN1 := Lib.hid hn1
  have hm1 : n1 ≤ 9223372036854775807 := by have h1 := hr1.le; have h2 := hr1.cap; unfold maxLen at h2; omega
  clear hr1 hn1
  go_enter Try.func3, Try.ntmps3
  go_wp2_with fail
  refine (szSS_in _ A1 n1 c1 xs1 (1048576) ((HN1.out) ▸ (HR1.out).atL) (HN1.out) (by omega) (by omega)).mono ?_
  rintro e w' ⟨rfl, rfl⟩
  go_wp2_with fail
  refine (toSS w A1 n1 c1 R1 xs1 ((HR1.out).below (Below.refl _ _)) (HN1.out) (by omega) (fun k hk => by have := row_small HT1 k (by rw [HN1.out]; exact hk); omega)).mono ?_
  rintro e w1 ⟨⟨p1A, p1R, rfl, ho⟩, hb⟩
  have z1 : w.heap.size ≤ w1.heap.size := hb.size
  have B1 : Below w.heap.size w w1 := (hb.mono (by omega))
  clear hb
  have p1_1 := Lib.hid ho.in_
  clear ho
  go_wp2_with fail
  refine (specDevelopFamily_c w1 x0 hb0 p1A n1 n1 p1R xs1 p1_1.out.own.rd (HN1.out) hw1 (by omega)).mono ?_
  rintro e w2 ⟨⟨w0A, w0n, w0c, w0R, rfl, w0hn, ho⟩, hb⟩
  have HL := Lib.hid w0hn
  have hsm : w0n ≤ 1048576 := by have := hsmall; have h2 := HL.out; omega
  clear w0hn
  have z2 : w1.heap.size ≤ w2.heap.size := hb.size
  have B2 : Below w.heap.size w w2 := B1.trans (hb.mono (by omega))
  have p1_2 := Lib.hid (p1_1.out.step (w' := w2) (fun k h1 h2 => hb.block k (by omega)))
  clear p1_1
  clear hb
  have w0_2 := Lib.hid ho.in_
  clear ho
  have hb : Below w2.heap.size w2 (w2.alloc (.cells #[.int .i64 (dvP x0 xs1), .slice w0A w0n w0c] 25)) := below_boxed _ _
  have qw0 : w2.heap.size < (w2.alloc (.cells #[.int .i64 (dvP x0 xs1), .slice w0A w0n w0c] 25)).heap.size := by simp
  have bw00_3 : (w2.alloc (.cells #[.int .i64 (dvP x0 xs1), .slice w0A w0n w0c] 25)).cell? ⟨w2.heap.size, 0, none⟩ = some (.int .i64 (dvP x0 xs1)) := by simp [go_sem]
  have bw01_3 : (w2.alloc (.cells #[.int .i64 (dvP x0 xs1), .slice w0A w0n w0c] 25)).cell? ⟨w2.heap.size, 1, none⟩ = some (.slice w0A w0n w0c) := by simp [go_sem]
  go_wp2_with fail
  generalize (w2.alloc (.cells #[.int .i64 (dvP x0 xs1), .slice w0A w0n w0c] 25)) = w3 at *
  have z3 : w2.heap.size ≤ w3.heap.size := hb.size
  have B3 : Below w.heap.size w w3 := B2.trans (hb.mono (by omega))
  have p1_3 := Lib.hid (p1_2.out.step (w' := w3) (fun k h1 h2 => hb.block k (by omega)))
  clear p1_2
  have w0_3 := Lib.hid (w0_2.out.step (w' := w3) (fun k h1 h2 => hb.block k (by omega)))
  clear w0_2
  clear hb
  go_wp2_with fail
  refine (toSS w3 A1 n1 c1 R1 xs1 ((HR1.out).below B3) (HN1.out) (by omega) (fun k hk => by have := row_small HT1 k (by rw [HN1.out]; exact hk); omega)).mono ?_
  rintro e w4 ⟨⟨x1A, x1R, rfl, ho⟩, hb⟩
  have z4 : w3.heap.size ≤ w4.heap.size := hb.size
  have B4 : Below w.heap.size w w4 := B3.trans (hb.mono (by omega))
  have p1_4 := Lib.hid (p1_3.out.step (w' := w4) (fun k h1 h2 => hb.block k (by omega)))
  clear p1_3
  have w0_4 := Lib.hid (w0_3.out.step (w' := w4) (fun k h1 h2 => hb.block k (by omega)))
  clear w0_3
  have bw00_4 := (hb.cell (p := ⟨w2.heap.size, 0, none⟩) (by show w2.heap.size < _; omega)).trans bw00_3
  clear bw00_3
  have bw01_4 := (hb.cell (p := ⟨w2.heap.size, 1, none⟩) (by show w2.heap.size < _; omega)).trans bw01_3
  clear bw01_3
  clear hb
  have x1_4 := Lib.hid ho.in_
  clear ho
  go_wp2_with fail
  refine (implDevelopFamily_c w4 x0 hb0 x1A n1 n1 x1R xs1 x1_4.out.own.rd (HN1.out) hw1 (by omega)).mono ?_
  rintro e w5 ⟨⟨g0A, g0n, g0c, g0R, rfl, g0hn, ho⟩, hb⟩
  obtain rfl : w0n = g0n := HL.out.symm.trans g0hn
  clear g0hn
  have z5 : w4.heap.size ≤ w5.heap.size := hb.size
  have B5 : Below w.heap.size w w5 := B4.trans (hb.mono (by omega))
  have p1_5 := Lib.hid (p1_4.out.step (w' := w5) (fun k h1 h2 => hb.block k (by omega)))
  clear p1_4
  have w0_5 := Lib.hid (w0_4.out.step (w' := w5) (fun k h1 h2 => hb.block k (by omega)))
  clear w0_4
  have x1_5 := Lib.hid (x1_4.out.step (w' := w5) (fun k h1 h2 => hb.block k (by omega)))
  clear x1_4
  have bw00_5 := (hb.cell (p := ⟨w2.heap.size, 0, none⟩) (by show w2.heap.size < _; omega)).trans bw00_4
  clear bw00_4
  have bw01_5 := (hb.cell (p := ⟨w2.heap.size, 1, none⟩) (by show w2.heap.size < _; omega)).trans bw01_4
  clear bw01_4
  clear hb
  have g0_5 := Lib.hid ho.in_
  clear ho
  have hb : Below w5.heap.size w5 (w5.alloc (.cells #[.int .i64 (dvP x0 xs1), .slice g0A w0n g0c] 25)) := below_boxed _ _
  have qg0 : w5.heap.size < (w5.alloc (.cells #[.int .i64 (dvP x0 xs1), .slice g0A w0n g0c] 25)).heap.size := by simp
  have bg00_6 : (w5.alloc (.cells #[.int .i64 (dvP x0 xs1), .slice g0A w0n g0c] 25)).cell? ⟨w5.heap.size, 0, none⟩ = some (.int .i64 (dvP x0 xs1)) := by simp [go_sem]
  have bg01_6 : (w5.alloc (.cells #[.int .i64 (dvP x0 xs1), .slice g0A w0n g0c] 25)).cell? ⟨w5.heap.size, 1, none⟩ = some (.slice g0A w0n g0c) := by simp [go_sem]
  have ew00 := (hb.cell (p := ⟨w2.heap.size, 0, none⟩) (by show w2.heap.size < _; omega)).trans bw00_5
  have ew01 := (hb.cell (p := ⟨w2.heap.size, 1, none⟩) (by show w2.heap.size < _; omega)).trans bw01_5
  go_wp2_with fail
  clear ew00 ew01
  generalize (w5.alloc (.cells #[.int .i64 (dvP x0 xs1), .slice g0A w0n g0c] 25)) = w6 at *
  have z6 : w5.heap.size ≤ w6.heap.size := hb.size
  have B6 : Below w.heap.size w w6 := B5.trans (hb.mono (by omega))
  have p1_6 := Lib.hid (p1_5.out.step (w' := w6) (fun k h1 h2 => hb.block k (by omega)))
  clear p1_5
  have w0_6 := Lib.hid (w0_5.out.step (w' := w6) (fun k h1 h2 => hb.block k (by omega)))
  clear w0_5
  have x1_6 := Lib.hid (x1_5.out.step (w' := w6) (fun k h1 h2 => hb.block k (by omega)))
  clear x1_5
  have g0_6 := Lib.hid (g0_5.out.step (w' := w6) (fun k h1 h2 => hb.block k (by omega)))
  clear g0_5
  have bw00_6 := (hb.cell (p := ⟨w2.heap.size, 0, none⟩) (by show w2.heap.size < _; omega)).trans bw00_5
  clear bw00_5
  have bw01_6 := (hb.cell (p := ⟨w2.heap.size, 1, none⟩) (by show w2.heap.size < _; omega)).trans bw01_5
  clear bw01_5
  clear hb
  go_wp2_with fail
  refine (eqD_v w6 (dvP x0 xs1) g0_6.out.own.rd w0_6.out.own.rd (HL.out) (by have := HL.out; omega) (fun k hk => by have := row_small HS k hk; omega)).mono ?_
  rintro e w7 ⟨rfl, hb⟩
  have z7 : w6.heap.size ≤ w7.heap.size := hb.size
  have B7 : Below w.heap.size w w7 := B6.trans (hb.mono (by omega))
  have p1_7 := Lib.hid (p1_6.out.step (w' := w7) (fun k h1 h2 => hb.block k (by omega)))
  clear p1_6
  have w0_7 := Lib.hid (w0_6.out.step (w' := w7) (fun k h1 h2 => hb.block k (by omega)))
  clear w0_6
  have x1_7 := Lib.hid (x1_6.out.step (w' := w7) (fun k h1 h2 => hb.block k (by omega)))
  clear x1_6
  have g0_7 := Lib.hid (g0_6.out.step (w' := w7) (fun k h1 h2 => hb.block k (by omega)))
  clear g0_6
  have bw00_7 := (hb.cell (p := ⟨w2.heap.size, 0, none⟩) (by show w2.heap.size < _; omega)).trans bw00_6
  clear bw00_6
  have bw01_7 := (hb.cell (p := ⟨w2.heap.size, 1, none⟩) (by show w2.heap.size < _; omega)).trans bw01_6
  clear bw01_6
  have bg00_7 := (hb.cell (p := ⟨w5.heap.size, 0, none⟩) (by show w5.heap.size < _; omega)).trans bg00_6
  clear bg00_6
  have bg01_7 := (hb.cell (p := ⟨w5.heap.size, 1, none⟩) (by show w5.heap.size < _; omega)).trans bg01_6
  clear bg01_6
  clear hb
  go_wp2_with fail
  refine (toSS w7 A1 n1 c1 R1 xs1 ((HR1.out).below B7) (HN1.out) (by omega) (fun k hk => by have := row_small HT1 k (by rw [HN1.out]; exact hk); omega)).mono ?_
  rintro e w8 ⟨⟨y1A, y1R, rfl, ho⟩, hb⟩
  have z8 : w7.heap.size ≤ w8.heap.size := hb.size
  have B8 : Below w.heap.size w w8 := B7.trans (hb.mono (by omega))
  have p1_8 := Lib.hid (p1_7.out.step (w' := w8) (fun k h1 h2 => hb.block k (by omega)))
  clear p1_7
  have w0_8 := Lib.hid (w0_7.out.step (w' := w8) (fun k h1 h2 => hb.block k (by omega)))
  clear w0_7
  have x1_8 := Lib.hid (x1_7.out.step (w' := w8) (fun k h1 h2 => hb.block k (by omega)))
  clear x1_7
  have g0_8 := Lib.hid (g0_7.out.step (w' := w8) (fun k h1 h2 => hb.block k (by omega)))
  clear g0_7
  have bw00_8 := (hb.cell (p := ⟨w2.heap.size, 0, none⟩) (by show w2.heap.size < _; omega)).trans bw00_7
  clear bw00_7
  have bw01_8 := (hb.cell (p := ⟨w2.heap.size, 1, none⟩) (by show w2.heap.size < _; omega)).trans bw01_7
  clear bw01_7
  have bg00_8 := (hb.cell (p := ⟨w5.heap.size, 0, none⟩) (by show w5.heap.size < _; omega)).trans bg00_7
  clear bg00_7
  have bg01_8 := (hb.cell (p := ⟨w5.heap.size, 1, none⟩) (by show w5.heap.size < _; omega)).trans bg01_7
  clear bg01_7
  clear hb
  have y1_8 := Lib.hid ho.in_
  clear ho
  go_wp2_with fail
  refine (eqSS_v w8 x1_8.out.own.rd y1_8.out.own.rd (HN1.out) (by have := HN1.out; omega) (fun k hk => by have := row_small HT1 k hk; omega)).mono ?_
  rintro e w9 ⟨rfl, hb⟩
  have z9 : w8.heap.size ≤ w9.heap.size := hb.size
  have B9 : Below w.heap.size w w9 := B8.trans (hb.mono (by omega))
  have p1_9 := Lib.hid (p1_8.out.step (w' := w9) (fun k h1 h2 => hb.block k (by omega)))
  clear p1_8
  have w0_9 := Lib.hid (w0_8.out.step (w' := w9) (fun k h1 h2 => hb.block k (by omega)))
  clear w0_8
  have x1_9 := Lib.hid (x1_8.out.step (w' := w9) (fun k h1 h2 => hb.block k (by omega)))
  clear x1_8
  have g0_9 := Lib.hid (g0_8.out.step (w' := w9) (fun k h1 h2 => hb.block k (by omega)))
  clear g0_8
  have y1_9 := Lib.hid (y1_8.out.step (w' := w9) (fun k h1 h2 => hb.block k (by omega)))
  clear y1_8
  have bw00_9 := (hb.cell (p := ⟨w2.heap.size, 0, none⟩) (by show w2.heap.size < _; omega)).trans bw00_8
  clear bw00_8
  have bw01_9 := (hb.cell (p := ⟨w2.heap.size, 1, none⟩) (by show w2.heap.size < _; omega)).trans bw01_8
  clear bw01_8
  have bg00_9 := (hb.cell (p := ⟨w5.heap.size, 0, none⟩) (by show w5.heap.size < _; omega)).trans bg00_8
  clear bg00_8
  have bg01_9 := (hb.cell (p := ⟨w5.heap.size, 1, none⟩) (by show w5.heap.size < _; omega)).trans bg01_8
  clear bg01_8
  clear hb
  go_wp2_with fail
  refine (markSS_v w9 (1) x1_9.out (HN1.out) (by omega) (by omega)).mono ?_
  rintro e w10 ⟨rfl, ⟨x1Y, ho, x1hM⟩, hb⟩
  have z10 : w9.heap.size ≤ w10.heap.size := hb.size
  have B10 : Below w.heap.size w w10 := B9.trans (hb.below (by omega) (by omega))
  have p1_10 := Lib.hid (p1_9.out.step (w' := w10) (fun k h1 h2 => hb.block k (by omega) (by first | exact Or.inl (by omega) | exact Or.inr (by omega))))
  clear p1_9
  have w0_10 := Lib.hid (w0_9.out.step (w' := w10) (fun k h1 h2 => hb.block k (by omega) (by first | exact Or.inl (by omega) | exact Or.inr (by omega))))
  clear w0_9
  have g0_10 := Lib.hid (g0_9.out.step (w' := w10) (fun k h1 h2 => hb.block k (by omega) (by first | exact Or.inl (by omega) | exact Or.inr (by omega))))
  clear g0_9
  have y1_10 := Lib.hid (y1_9.out.step (w' := w10) (fun k h1 h2 => hb.block k (by omega) (by first | exact Or.inl (by omega) | exact Or.inr (by omega))))
  clear y1_9
  have bw00_10 := (World.cell?_of_block (a := ⟨w2.heap.size, 0, none⟩) (hb.block (w2.heap.size) (by omega) (by first | exact Or.inl (by omega) | exact Or.inr (by omega)))).trans bw00_9
  clear bw00_9
  have bw01_10 := (World.cell?_of_block (a := ⟨w2.heap.size, 1, none⟩) (hb.block (w2.heap.size) (by omega) (by first | exact Or.inl (by omega) | exact Or.inr (by omega)))).trans bw01_9
  clear bw01_9
  have bg00_10 := (World.cell?_of_block (a := ⟨w5.heap.size, 0, none⟩) (hb.block (w5.heap.size) (by omega) (by first | exact Or.inl (by omega) | exact Or.inr (by omega)))).trans bg00_9
  clear bg00_9
  have bg01_10 := (World.cell?_of_block (a := ⟨w5.heap.size, 1, none⟩) (hb.block (w5.heap.size) (by omega) (by first | exact Or.inl (by omega) | exact Or.inr (by omega)))).trans bg01_9
  clear bg01_9
  clear hb
  have x1_10 := Lib.hid ho
  clear ho x1_9
  have x1HM := Lib.hid x1hM
  clear x1hM
  go_wp2_with fail
  refine (eqD_v w10 (dvP x0 xs1) g0_10.out.own.rd w0_10.out.own.rd (HL.out) (by have := HL.out; omega) (fun k hk => by have := row_small HS k hk; omega)).mono ?_
  rintro e w11 ⟨rfl, hb⟩
  have z11 : w10.heap.size ≤ w11.heap.size := hb.size
  have B11 : Below w.heap.size w w11 := B10.trans (hb.mono (by omega))
  have p1_11 := Lib.hid (p1_10.out.step (w' := w11) (fun k h1 h2 => hb.block k (by omega)))
  clear p1_10
  have w0_11 := Lib.hid (w0_10.out.step (w' := w11) (fun k h1 h2 => hb.block k (by omega)))
  clear w0_10
  have x1_11 := Lib.hid (x1_10.out.step (w' := w11) (fun k h1 h2 => hb.block k (by omega)))
  clear x1_10
  have g0_11 := Lib.hid (g0_10.out.step (w' := w11) (fun k h1 h2 => hb.block k (by omega)))
  clear g0_10
  have y1_11 := Lib.hid (y1_10.out.step (w' := w11) (fun k h1 h2 => hb.block k (by omega)))
  clear y1_10
  have bw00_11 := (hb.cell (p := ⟨w2.heap.size, 0, none⟩) (by show w2.heap.size < _; omega)).trans bw00_10
  clear bw00_10
  have bw01_11 := (hb.cell (p := ⟨w2.heap.size, 1, none⟩) (by show w2.heap.size < _; omega)).trans bw01_10
  clear bw01_10
  have bg00_11 := (hb.cell (p := ⟨w5.heap.size, 0, none⟩) (by show w5.heap.size < _; omega)).trans bg00_10
  clear bg00_10
  have bg01_11 := (hb.cell (p := ⟨w5.heap.size, 1, none⟩) (by show w5.heap.size < _; omega)).trans bg01_10
  clear bg01_10
  clear hb
  go_wp2_with fail
  refine (markD_v w11 (dvP x0 xs1) (1) g0_11.out (HL.out) (by omega) (by omega)).mono ?_
  rintro e w12 ⟨rfl, ⟨g0Y, ho, g0hM⟩, hb⟩
  have z12 : w11.heap.size ≤ w12.heap.size := hb.size
  have B12 : Below w.heap.size w w12 := B11.trans (hb.below (by omega) (by omega))
  have p1_12 := Lib.hid (p1_11.out.step (w' := w12) (fun k h1 h2 => hb.block k (by omega) (by first | exact Or.inl (by omega) | exact Or.inr (by omega))))
  clear p1_11
  have w0_12 := Lib.hid (w0_11.out.step (w' := w12) (fun k h1 h2 => hb.block k (by omega) (by first | exact Or.inl (by omega) | exact Or.inr (by omega))))
  clear w0_11
  have x1_12 := Lib.hid (x1_11.out.step (w' := w12) (fun k h1 h2 => hb.block k (by omega) (by first | exact Or.inl (by omega) | exact Or.inr (by omega))))
  clear x1_11
  have y1_12 := Lib.hid (y1_11.out.step (w' := w12) (fun k h1 h2 => hb.block k (by omega) (by first | exact Or.inl (by omega) | exact Or.inr (by omega))))
  clear y1_11
  have bw00_12 := (World.cell?_of_block (a := ⟨w2.heap.size, 0, none⟩) (hb.block (w2.heap.size) (by omega) (by first | exact Or.inl (by omega) | exact Or.inr (by omega)))).trans bw00_11
  clear bw00_11
  have bw01_12 := (World.cell?_of_block (a := ⟨w2.heap.size, 1, none⟩) (hb.block (w2.heap.size) (by omega) (by first | exact Or.inl (by omega) | exact Or.inr (by omega)))).trans bw01_11
  clear bw01_11
  have bg00_12 := (World.cell?_of_block (a := ⟨w5.heap.size, 0, none⟩) (hb.block (w5.heap.size) (by omega) (by first | exact Or.inl (by omega) | exact Or.inr (by omega)))).trans bg00_11
  clear bg00_11
  have bg01_12 := (World.cell?_of_block (a := ⟨w5.heap.size, 1, none⟩) (hb.block (w5.heap.size) (by omega) (by first | exact Or.inl (by omega) | exact Or.inr (by omega)))).trans bg01_11
  clear bg01_11
  clear hb
  have g0_12 := Lib.hid ho
  clear ho g0_11
  have g0HM := Lib.hid g0hM
  clear g0hM
  go_wp2_with fail
  refine (heldD_v w12 (dvP x0 xs1) (1) g0_12.out.own.rd (g0HM.out) (HL.out) (by omega) (by omega)).mono ?_
  rintro e w13 ⟨rfl, hb⟩
  have z13 : w12.heap.size ≤ w13.heap.size := hb.size
  have B13 : Below w.heap.size w w13 := B12.trans (hb.mono (by omega))
  have p1_13 := Lib.hid (p1_12.out.step (w' := w13) (fun k h1 h2 => hb.block k (by omega)))
  clear p1_12
  have w0_13 := Lib.hid (w0_12.out.step (w' := w13) (fun k h1 h2 => hb.block k (by omega)))
  clear w0_12
  have x1_13 := Lib.hid (x1_12.out.step (w' := w13) (fun k h1 h2 => hb.block k (by omega)))
  clear x1_12
  have g0_13 := Lib.hid (g0_12.out.step (w' := w13) (fun k h1 h2 => hb.block k (by omega)))
  clear g0_12
  have y1_13 := Lib.hid (y1_12.out.step (w' := w13) (fun k h1 h2 => hb.block k (by omega)))
  clear y1_12
  have bw00_13 := (hb.cell (p := ⟨w2.heap.size, 0, none⟩) (by show w2.heap.size < _; omega)).trans bw00_12
  clear bw00_12
  have bw01_13 := (hb.cell (p := ⟨w2.heap.size, 1, none⟩) (by show w2.heap.size < _; omega)).trans bw01_12
  clear bw01_12
  have bg00_13 := (hb.cell (p := ⟨w5.heap.size, 0, none⟩) (by show w5.heap.size < _; omega)).trans bg00_12
  clear bg00_12
  have bg01_13 := (hb.cell (p := ⟨w5.heap.size, 1, none⟩) (by show w5.heap.size < _; omega)).trans bg01_12
  clear bg01_12
  clear hb
  go_wp2_with fail
  refine (toSS w13 A1 n1 c1 R1 xs1 ((HR1.out).below B13) (HN1.out) (by omega) (fun k hk => by have := row_small HT1 k (by rw [HN1.out]; exact hk); omega)).mono ?_
  rintro e w14 ⟨⟨z1A, z1R, rfl, ho⟩, hb⟩
  have z14 : w13.heap.size ≤ w14.heap.size := hb.size
  have B14 : Below w.heap.size w w14 := B13.trans (hb.mono (by omega))
  have p1_14 := Lib.hid (p1_13.out.step (w' := w14) (fun k h1 h2 => hb.block k (by omega)))
  clear p1_13
  have w0_14 := Lib.hid (w0_13.out.step (w' := w14) (fun k h1 h2 => hb.block k (by omega)))
  clear w0_13
  have x1_14 := Lib.hid (x1_13.out.step (w' := w14) (fun k h1 h2 => hb.block k (by omega)))
  clear x1_13
  have g0_14 := Lib.hid (g0_13.out.step (w' := w14) (fun k h1 h2 => hb.block k (by omega)))
  clear g0_13
  have y1_14 := Lib.hid (y1_13.out.step (w' := w14) (fun k h1 h2 => hb.block k (by omega)))
  clear y1_13
  have bw00_14 := (hb.cell (p := ⟨w2.heap.size, 0, none⟩) (by show w2.heap.size < _; omega)).trans bw00_13
  clear bw00_13
  have bw01_14 := (hb.cell (p := ⟨w2.heap.size, 1, none⟩) (by show w2.heap.size < _; omega)).trans bw01_13
  clear bw01_13
  have bg00_14 := (hb.cell (p := ⟨w5.heap.size, 0, none⟩) (by show w5.heap.size < _; omega)).trans bg00_13
  clear bg00_13
  have bg01_14 := (hb.cell (p := ⟨w5.heap.size, 1, none⟩) (by show w5.heap.size < _; omega)).trans bg01_13
  clear bg01_13
  clear hb
  have z1_14 := Lib.hid ho.in_
  clear ho
  go_wp2_with fail
  refine (implDevelopFamily_c w14 x0 hb0 z1A n1 n1 z1R xs1 z1_14.out.own.rd (HN1.out) hw1 (by omega)).mono ?_
  rintro e w15 ⟨⟨h0A, h0n, h0c, h0R, rfl, h0hn, ho⟩, hb⟩
  obtain rfl : w0n = h0n := HL.out.symm.trans h0hn
  clear h0hn
  have z15 : w14.heap.size ≤ w15.heap.size := hb.size
  have B15 : Below w.heap.size w w15 := B14.trans (hb.mono (by omega))
  have p1_15 := Lib.hid (p1_14.out.step (w' := w15) (fun k h1 h2 => hb.block k (by omega)))
  clear p1_14
  have w0_15 := Lib.hid (w0_14.out.step (w' := w15) (fun k h1 h2 => hb.block k (by omega)))
  clear w0_14
  have x1_15 := Lib.hid (x1_14.out.step (w' := w15) (fun k h1 h2 => hb.block k (by omega)))
  clear x1_14
  have g0_15 := Lib.hid (g0_14.out.step (w' := w15) (fun k h1 h2 => hb.block k (by omega)))
  clear g0_14
  have y1_15 := Lib.hid (y1_14.out.step (w' := w15) (fun k h1 h2 => hb.block k (by omega)))
  clear y1_14
  have z1_15 := Lib.hid (z1_14.out.step (w' := w15) (fun k h1 h2 => hb.block k (by omega)))
  clear z1_14
  have bw00_15 := (hb.cell (p := ⟨w2.heap.size, 0, none⟩) (by show w2.heap.size < _; omega)).trans bw00_14
  clear bw00_14
  have bw01_15 := (hb.cell (p := ⟨w2.heap.size, 1, none⟩) (by show w2.heap.size < _; omega)).trans bw01_14
  clear bw01_14
  have bg00_15 := (hb.cell (p := ⟨w5.heap.size, 0, none⟩) (by show w5.heap.size < _; omega)).trans bg00_14
  clear bg00_14
  have bg01_15 := (hb.cell (p := ⟨w5.heap.size, 1, none⟩) (by show w5.heap.size < _; omega)).trans bg01_14
  clear bg01_14
  clear hb
  have h0_15 := Lib.hid ho.in_
  clear ho
  have hb : Below w15.heap.size w15 (w15.alloc (.cells #[.int .i64 (dvP x0 xs1), .slice h0A w0n h0c] 25)) := below_boxed _ _
  have qh0 : w15.heap.size < (w15.alloc (.cells #[.int .i64 (dvP x0 xs1), .slice h0A w0n h0c] 25)).heap.size := by simp
  have bh00_16 : (w15.alloc (.cells #[.int .i64 (dvP x0 xs1), .slice h0A w0n h0c] 25)).cell? ⟨w15.heap.size, 0, none⟩ = some (.int .i64 (dvP x0 xs1)) := by simp [go_sem]
  have bh01_16 : (w15.alloc (.cells #[.int .i64 (dvP x0 xs1), .slice h0A w0n h0c] 25)).cell? ⟨w15.heap.size, 1, none⟩ = some (.slice h0A w0n h0c) := by simp [go_sem]
  have ew00 := (hb.cell (p := ⟨w2.heap.size, 0, none⟩) (by show w2.heap.size < _; omega)).trans bw00_15
  have ew01 := (hb.cell (p := ⟨w2.heap.size, 1, none⟩) (by show w2.heap.size < _; omega)).trans bw01_15
  have eg00 := (hb.cell (p := ⟨w5.heap.size, 0, none⟩) (by show w5.heap.size < _; omega)).trans bg00_15
  have eg01 := (hb.cell (p := ⟨w5.heap.size, 1, none⟩) (by show w5.heap.size < _; omega)).trans bg01_15
  go_wp2_with fail
  clear ew00 ew01
  clear eg00 eg01
  generalize (w15.alloc (.cells #[.int .i64 (dvP x0 xs1), .slice h0A w0n h0c] 25)) = w16 at *
  have z16 : w15.heap.size ≤ w16.heap.size := hb.size
  have B16 : Below w.heap.size w w16 := B15.trans (hb.mono (by omega))
  have p1_16 := Lib.hid (p1_15.out.step (w' := w16) (fun k h1 h2 => hb.block k (by omega)))
  clear p1_15
  have w0_16 := Lib.hid (w0_15.out.step (w' := w16) (fun k h1 h2 => hb.block k (by omega)))
  clear w0_15
  have x1_16 := Lib.hid (x1_15.out.step (w' := w16) (fun k h1 h2 => hb.block k (by omega)))
  clear x1_15
  have g0_16 := Lib.hid (g0_15.out.step (w' := w16) (fun k h1 h2 => hb.block k (by omega)))
  clear g0_15
  have y1_16 := Lib.hid (y1_15.out.step (w' := w16) (fun k h1 h2 => hb.block k (by omega)))
  clear y1_15
  have z1_16 := Lib.hid (z1_15.out.step (w' := w16) (fun k h1 h2 => hb.block k (by omega)))
  clear z1_15
  have h0_16 := Lib.hid (h0_15.out.step (w' := w16) (fun k h1 h2 => hb.block k (by omega)))
  clear h0_15
  have bw00_16 := (hb.cell (p := ⟨w2.heap.size, 0, none⟩) (by show w2.heap.size < _; omega)).trans bw00_15
  clear bw00_15
  have bw01_16 := (hb.cell (p := ⟨w2.heap.size, 1, none⟩) (by show w2.heap.size < _; omega)).trans bw01_15
  clear bw01_15
  have bg00_16 := (hb.cell (p := ⟨w5.heap.size, 0, none⟩) (by show w5.heap.size < _; omega)).trans bg00_15
  clear bg00_15
  have bg01_16 := (hb.cell (p := ⟨w5.heap.size, 1, none⟩) (by show w5.heap.size < _; omega)).trans bg01_15
  clear bg01_15
  clear hb
  go_wp2_with fail
  refine (eqD_v w16 (dvP x0 xs1) h0_16.out.own.rd w0_16.out.own.rd (HL.out) (by have := HL.out; omega) (fun k hk => by have := row_small HS k hk; omega)).mono ?_
  rintro e w17 ⟨rfl, hb⟩
  have z17 : w16.heap.size ≤ w17.heap.size := hb.size
  have B17 : Below w.heap.size w w17 := B16.trans (hb.mono (by omega))
  have p1_17 := Lib.hid (p1_16.out.step (w' := w17) (fun k h1 h2 => hb.block k (by omega)))
  clear p1_16
  have w0_17 := Lib.hid (w0_16.out.step (w' := w17) (fun k h1 h2 => hb.block k (by omega)))
  clear w0_16
  have x1_17 := Lib.hid (x1_16.out.step (w' := w17) (fun k h1 h2 => hb.block k (by omega)))
  clear x1_16
  have g0_17 := Lib.hid (g0_16.out.step (w' := w17) (fun k h1 h2 => hb.block k (by omega)))
  clear g0_16
  have y1_17 := Lib.hid (y1_16.out.step (w' := w17) (fun k h1 h2 => hb.block k (by omega)))
  clear y1_16
  have z1_17 := Lib.hid (z1_16.out.step (w' := w17) (fun k h1 h2 => hb.block k (by omega)))
  clear z1_16
  have h0_17 := Lib.hid (h0_16.out.step (w' := w17) (fun k h1 h2 => hb.block k (by omega)))
  clear h0_16
  have bw00_17 := (hb.cell (p := ⟨w2.heap.size, 0, none⟩) (by show w2.heap.size < _; omega)).trans bw00_16
  clear bw00_16
  have bw01_17 := (hb.cell (p := ⟨w2.heap.size, 1, none⟩) (by show w2.heap.size < _; omega)).trans bw01_16
  clear bw01_16
  have bg00_17 := (hb.cell (p := ⟨w5.heap.size, 0, none⟩) (by show w5.heap.size < _; omega)).trans bg00_16
  clear bg00_16
  have bg01_17 := (hb.cell (p := ⟨w5.heap.size, 1, none⟩) (by show w5.heap.size < _; omega)).trans bg01_16
  clear bg01_16
  have bh00_17 := (hb.cell (p := ⟨w15.heap.size, 0, none⟩) (by show w15.heap.size < _; omega)).trans bh00_16
  clear bh00_16
  have bh01_17 := (hb.cell (p := ⟨w15.heap.size, 1, none⟩) (by show w15.heap.size < _; omega)).trans bh01_16
  clear bh01_16
  clear hb
  go_wp2_with fail
  refine (heldD_v w17 (dvP x0 xs1) (1) g0_17.out.own.rd (g0HM.out) (HL.out) (by omega) (by omega)).mono ?_
  rintro e w18 ⟨rfl, hb⟩
  have z18 : w17.heap.size ≤ w18.heap.size := hb.size
  have B18 : Below w.heap.size w w18 := B17.trans (hb.mono (by omega))
  have p1_18 := Lib.hid (p1_17.out.step (w' := w18) (fun k h1 h2 => hb.block k (by omega)))
  clear p1_17
  have w0_18 := Lib.hid (w0_17.out.step (w' := w18) (fun k h1 h2 => hb.block k (by omega)))
  clear w0_17
  have x1_18 := Lib.hid (x1_17.out.step (w' := w18) (fun k h1 h2 => hb.block k (by omega)))
  clear x1_17
  have g0_18 := Lib.hid (g0_17.out.step (w' := w18) (fun k h1 h2 => hb.block k (by omega)))
  clear g0_17
  have y1_18 := Lib.hid (y1_17.out.step (w' := w18) (fun k h1 h2 => hb.block k (by omega)))
  clear y1_17
  have z1_18 := Lib.hid (z1_17.out.step (w' := w18) (fun k h1 h2 => hb.block k (by omega)))
  clear z1_17
  have h0_18 := Lib.hid (h0_17.out.step (w' := w18) (fun k h1 h2 => hb.block k (by omega)))
  clear h0_17
  have bw00_18 := (hb.cell (p := ⟨w2.heap.size, 0, none⟩) (by show w2.heap.size < _; omega)).trans bw00_17
  clear bw00_17
  have bw01_18 := (hb.cell (p := ⟨w2.heap.size, 1, none⟩) (by show w2.heap.size < _; omega)).trans bw01_17
  clear bw01_17
  have bg00_18 := (hb.cell (p := ⟨w5.heap.size, 0, none⟩) (by show w5.heap.size < _; omega)).trans bg00_17
  clear bg00_17
  have bg01_18 := (hb.cell (p := ⟨w5.heap.size, 1, none⟩) (by show w5.heap.size < _; omega)).trans bg01_17
  clear bg01_17
  have bh00_18 := (hb.cell (p := ⟨w15.heap.size, 0, none⟩) (by show w15.heap.size < _; omega)).trans bh00_17
  clear bh00_17
  have bh01_18 := (hb.cell (p := ⟨w15.heap.size, 1, none⟩) (by show w15.heap.size < _; omega)).trans bh01_17
  clear bh01_17
  clear hb
  go_wp2
  go_ret
  exact ⟨rfl, B18⟩

theorem walk (w : World) (x0 : Int) (hb0 : -9223372036854775808 ≤ x0 ∧ x0 ≤ 9223372036854775807) (A1 : Option Addr) (n1 c1 : Nat) (R1 : Spine) (xs1 : List (List Int)) (hr1 : RdM w A1 c1 R1 xs1) (hn1 : xs1.length = n1) (hw1 : WfM xs1) :
    Calls Try.prog 3 #[.int .i64 x0, .slice A1 n1 c1] w fun e w' => e = .returned (.bool true) ∧ Below w.heap.size w w' := by
  rcases Int.lt_or_le 1048576 (((n1 : Int) + (tot xs1 : Nat))) with h1 | h1
  · exact walkOut1 w x0 hb0 A1 n1 c1 R1 xs1 hr1 hn1 hw1  h1
  exact walkIn w x0 hb0 A1 n1 c1 R1 xs1 hr1 hn1 hw1 h1

set_option maxRecDepth 100000 in
theorem lifted (os : Os) (started : os.Started) (H : Type) (enc : TypeId × Value → H) :
    ReturnsInHanded {} Try.checked os 3 .any (Rows.fnExactDevelopFamilySpec.pre6 enc Try.prog Try.f3 Rows.fnExactDevelopFamilyRow.domain false) (Rows.fnExactDevelopFamilySpec.post enc Try.prog Try.f3 false true false false) := by
  refine returnsInHanded_of_change (C := Try.checked) own started (by kernel_rfl) Try.func3
    (ChangeSpec.witness6 (enc := enc) (C := Try.checked) false ⟨#[], #[.int .i64 0, .slice none 0 0], []⟩ 8 (by kernel_rfl) (by kernel_rfl) (by kernel_rfl) (by kernel_rfl)) ?_
  intro W base args ds gs before hval0 hW hcnd _
  have hval : ∀ (j : Nat) t v, Try.f3.params[j]? = some t → args[j]? = some v → Value.okWide Try.prog W .any base t v := hval0
  have hW' := hW
  obtain ⟨p, q, hA0, hV, rfl, hfz, hnd⟩ := hW
  have hA : DataW.TrodAll enc Try.prog W 0 (fun _ => true) true Try.f3.params.toList args.toList ds p := hA0
  rw [Try.params3] at hA hval
  obtain ⟨v0, vs0, d0, ds0, p0, q0, hargs, rfl, rfl, h0, r0⟩ := trodAll_cons hA
  obtain ⟨v1, vs1, d1, ds1, p1, q1, rfl, rfl, rfl, h1, r1⟩ := trodAll_cons r0
  obtain ⟨rfl, rfl, rfl⟩ := trodAll_nil r1
  obtain rfl : args = #[v0, v1] := by cases args; simp_all
  obtain ⟨rfl, rfl⟩ := trodVars_none hV
  have k0 := h0
  have lt0 : ∀ x ∈ p0, x.block < W.heap.size := by obtain ⟨m, hm⟩ := k0; exact DataW.trod_lt m _ _ _ hm
  obtain ⟨x0, rfl, e0, _, hwf0⟩ := open_int Try.underlying2 (hval 0 2 v0 rfl rfl) h0
  have hb0 := wf_b64 hwf0
  obtain ⟨A1, n1, c1, rfl⟩ := okWide_slice Try.underlying22 (hval 1 22 v1 rfl rfl)
  have k1 := h1
  have lt1 : ∀ x ∈ p1, x.block < W.heap.size := by obtain ⟨m, hm⟩ := k1; exact DataW.trod_lt m _ _ _ hm
  obtain ⟨R1, xs1, hr1, hn1, hw1⟩ := open_M h1
  clear hA0 hval0
  refine (walk W x0 hb0 A1 n1 c1 R1 xs1 hr1 hn1 hw1).mono fun e W' ⟨he, bel⟩ => ?_
  subst he
  exact ⟨_, rfl, _, _, _, [], _, [], hW', trodAll_mk1 (shut_bool Try.underlying4 _), (trodAll_cons_mk (Below.trod laidOut (by kernel_rfl) (of_decide_eq_true (by kernel_rfl)) k0 bel lt0) (trodAll_cons_mk (Below.trod laidOut (by kernel_rfl) (of_decide_eq_true (by kernel_rfl)) k1 bel lt1) trodAll_mk0)), rfl, bel.frame _, fun h => by cases h⟩

theorem over : Rows.fnExactDevelopFamilyRow.holds Try.pinned (OpenSpec.ofChange Rows.fnExactDevelopFamilySpec) :=
  OpenClaim.holds_of_wide 3 Try.f3 rfl rfl rfl rfl rfl rfl rfl ⟨rfl, rfl, rfl, rfl, rfl⟩ rfl rfl rfl rfl rfl (by kernel_rfl) Try.func3 (by kernel_rfl)
    (of_decide_eq_true (by kernel_rfl)) (by unfold Func.isWrapper; first | (rw [if_pos (by decide +kernel)]; kernel_rfl) | (rw [if_neg (by decide +kernel)]; exact ⟨rfl, rfl⟩))
    (fun os started H enc _ => lifted os started H enc)

/-- The statement. -/
theorem proved : Rows.FnExactDevelopFamilySaid := over
#print axioms proved
end Go.Proofs.Ytdcegepkgcflpaa.lawDevelopFamily
