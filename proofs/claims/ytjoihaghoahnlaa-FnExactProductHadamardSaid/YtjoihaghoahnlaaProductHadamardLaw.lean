/-
  The program's ProductHadamard returns what the reference's returns: the statement FnExactProductHadamardSaid. Conditions: none.
-/
import Derived.Test.YtjoihaghoahnlaaRows
import Derived.Test.YtjoihaghoahnlaaHad7
import Derived.Test.YtjoihaghoahnlaaLawFrame
namespace Go.Proofs.Ytjoihaghoahnlaa.lawProductHadamard
open Go.ChangeShapes Go.WideShapes Go.ChangeAt Go.RowKit Go.Deep
set_option linter.unusedVariables false
set_option linter.unusedSimpArgs false

theorem own : ownKnob Try.prog.godebug = none := by kernel_rfl
theorem laidOut : laidOutB Try.prog = true := by kernel_rfl

set_option maxHeartbeats 400000 in
theorem walkOut0 (w : World) (A0 : Option Addr) (n0 c0 : Nat) (R0 : Spine) (xs0 : List (List Int)) (hr0 : RdM w A0 c0 R0 xs0) (hn0 : xs0.length = n0) (hw0 : WfM xs0) (A1 : Option Addr) (n1 c1 : Nat) (R1 : Spine) (xs1 : List (List Int)) (hr1 : RdM w A1 c1 R1 xs1) (hn1 : xs1.length = n1) (hw1 : WfM xs1) (hz : 1048576 < ((n0 : Int) + (tot xs0 : Nat))) :
    Calls Try.prog 12 #[.slice A0 n0 c0, .slice A1 n1 c1] w fun e w' => e = .returned (.bool true) ∧ Below w.heap.size w w' := by
  have HR0 := Lib.hid hr0
  have HN0 := Lib.hid hn0
  have hm0 : n0 ≤ 9223372036854775807 := by have h1 := hr0.le; have h2 := hr0.cap; unfold maxLen at h2; omega
  clear hr0 hn0
  have HR1 := Lib.hid hr1
  have HN1 := Lib.hid hn1
  have hm1 : n1 ≤ 9223372036854775807 := by have h1 := hr1.le; have h2 := hr1.cap; unfold maxLen at h2; omega
  clear hr1 hn1
  go_enter Try.func12, Try.ntmps12
  go_wp2_with fail
  refine (szSS_out _ A0 n0 c0 xs0 (1048576) ((HN0.out) ▸ (HR0.out).atL) (HN0.out) (by omega) (by omega) (by omega) (by omega)).mono ?_
  rintro e w' ⟨rfl, rfl⟩
  go_wp2
  go_ret
  exact ⟨rfl, Below.refl _ _⟩

set_option maxHeartbeats 400000 in
theorem walkOut1 (w : World) (A0 : Option Addr) (n0 c0 : Nat) (R0 : Spine) (xs0 : List (List Int)) (hr0 : RdM w A0 c0 R0 xs0) (hn0 : xs0.length = n0) (hw0 : WfM xs0) (A1 : Option Addr) (n1 c1 : Nat) (R1 : Spine) (xs1 : List (List Int)) (hr1 : RdM w A1 c1 R1 xs1) (hn1 : xs1.length = n1) (hw1 : WfM xs1) (hz0 : ((n0 : Int) + (tot xs0 : Nat)) ≤ 1048576) (hz : 1048576 < ((n0 : Int) + (tot xs0 : Nat)) + ((n1 : Int) + (tot xs1 : Nat))) :
    Calls Try.prog 12 #[.slice A0 n0 c0, .slice A1 n1 c1] w fun e w' => e = .returned (.bool true) ∧ Below w.heap.size w w' := by
  have HR0 := Lib.hid hr0
  have HN0 := Lib.hid hn0
  have hm0 : n0 ≤ 9223372036854775807 := by have h1 := hr0.le; have h2 := hr0.cap; unfold maxLen at h2; omega
  clear hr0 hn0
  have HR1 := Lib.hid hr1
  have HN1 := Lib.hid hn1
  have hm1 : n1 ≤ 9223372036854775807 := by have h1 := hr1.le; have h2 := hr1.cap; unfold maxLen at h2; omega
  clear hr1 hn1
  go_enter Try.func12, Try.ntmps12
  go_wp2_with fail
  refine (szSS_in _ A0 n0 c0 xs0 (1048576) ((HN0.out) ▸ (HR0.out).atL) (HN0.out) (by omega) (by omega)).mono ?_
  rintro e w' ⟨rfl, rfl⟩
  go_wp2_with fail
  refine (szSS_out _ A1 n1 c1 xs1 (1048576 - (n0 : Int) - ((tot xs0 : Nat) : Int)) ((HN1.out) ▸ (HR1.out).atL) (HN1.out) (by omega) (by omega) (by omega) (by omega)).mono ?_
  rintro e w' ⟨rfl, rfl⟩
  go_wp2
  go_ret
  exact ⟨rfl, Below.refl _ _⟩

set_option maxHeartbeats 1000000 in
set_option maxRecDepth 100000 in
theorem walkIn (w : World) (A0 : Option Addr) (n0 c0 : Nat) (R0 : Spine) (xs0 : List (List Int)) (hr0 : RdM w A0 c0 R0 xs0) (hn0 : xs0.length = n0) (hw0 : WfM xs0) (A1 : Option Addr) (n1 c1 : Nat) (R1 : Spine) (xs1 : List (List Int)) (hr1 : RdM w A1 c1 R1 xs1) (hn1 : xs1.length = n1) (hw1 : WfM xs1) (hz0 : ((n0 : Int) + (tot xs0 : Nat)) ≤ 1048576) (hz1 : ((n0 : Int) + (tot xs0 : Nat)) + ((n1 : Int) + (tot xs1 : Nat)) ≤ 1048576) :
    Calls Try.prog 12 #[.slice A0 n0 c0, .slice A1 n1 c1] w fun e w' => e = .returned (.bool true) ∧ Below w.heap.size w w' := by
  have hsmall : (prodM xs0 xs1).length ≤ 1048576 := (ProductHadamard_small xs0 xs1).1
  have HS : tot (prodM xs0 xs1) ≤ 1048576 := (ProductHadamard_small xs0 xs1).2
  have HT0 : tot xs0 ≤ 1048576 := by omega
  have HT1 : tot xs1 ≤ 1048576 := by omega
  have HR0 := Lib.hid hr0
  have HN0 := Lib.hid hn0
  have hm0 : n0 ≤ 9223372036854775807 := by have h1 := hr0.le; have h2 := hr0.cap; unfold maxLen at h2; omega
  clear hr0 hn0
  have HR1 := Lib.hid hr1
  have HN1 := Lib.hid hn1
  have hm1 : n1 ≤ 9223372036854775807 := by have h1 := hr1.le; have h2 := hr1.cap; unfold maxLen at h2; omega
  clear hr1 hn1
  go_enter Try.func12, Try.ntmps12
  go_wp2_with fail
  refine (szSS_in _ A0 n0 c0 xs0 (1048576) ((HN0.out) ▸ (HR0.out).atL) (HN0.out) (by omega) (by omega)).mono ?_
  rintro e w' ⟨rfl, rfl⟩
  go_wp2_with fail
  refine (szSS_in _ A1 n1 c1 xs1 (1048576 - (n0 : Int) - ((tot xs0 : Nat) : Int)) ((HN1.out) ▸ (HR1.out).atL) (HN1.out) (by omega) (by omega)).mono ?_
  rintro e w' ⟨rfl, rfl⟩
  go_wp2_with fail
  refine (toSS w A0 n0 c0 R0 xs0 ((HR0.out).below (Below.refl _ _)) (HN0.out) (by omega) (fun k hk => by have := row_small HT0 k (by rw [HN0.out]; exact hk); omega)).mono ?_
  rintro e w1 ⟨⟨p0A, p0R, rfl, ho⟩, hb⟩
  have z1 : w.heap.size ≤ w1.heap.size := hb.size
  have B1 : Below w.heap.size w w1 := (hb.mono (by omega))
  clear hb
  have p0_1 := Lib.hid ho.in_
  clear ho
  go_wp2_with fail
  refine (toSS w1 A1 n1 c1 R1 xs1 ((HR1.out).below B1) (HN1.out) (by omega) (fun k hk => by have := row_small HT1 k (by rw [HN1.out]; exact hk); omega)).mono ?_
  rintro e w2 ⟨⟨p1A, p1R, rfl, ho⟩, hb⟩
  have z2 : w1.heap.size ≤ w2.heap.size := hb.size
  have B2 : Below w.heap.size w w2 := B1.trans (hb.mono (by omega))
  have p0_2 := Lib.hid (p0_1.out.step (w' := w2) (fun k h1 h2 => hb.block k (by omega)))
  clear p0_1
  clear hb
  have p1_2 := Lib.hid ho.in_
  clear ho
  go_wp2_with fail
  refine (specProductHadamard_c w2 p0A n0 n0 p0R xs0 p0_2.out.own.rd (HN0.out) hw0 (by omega) p1A n1 n1 p1R xs1 p1_2.out.own.rd (HN1.out) hw1 (by omega)).mono ?_
  rintro e w3 ⟨⟨w0A, w0n, w0c, w0R, rfl, w0hn, ho⟩, hb⟩
  have HL := Lib.hid w0hn
  have hsm : w0n ≤ 1048576 := by have := hsmall; have h2 := HL.out; omega
  clear w0hn
  have z3 : w2.heap.size ≤ w3.heap.size := hb.size
  have B3 : Below w.heap.size w w3 := B2.trans (hb.mono (by omega))
  have p0_3 := Lib.hid (p0_2.out.step (w' := w3) (fun k h1 h2 => hb.block k (by omega)))
  clear p0_2
  have p1_3 := Lib.hid (p1_2.out.step (w' := w3) (fun k h1 h2 => hb.block k (by omega)))
  clear p1_2
  clear hb
  have w0_3 := Lib.hid ho.in_
  clear ho
  go_wp2_with fail
  refine (toSS w3 A0 n0 c0 R0 xs0 ((HR0.out).below B3) (HN0.out) (by omega) (fun k hk => by have := row_small HT0 k (by rw [HN0.out]; exact hk); omega)).mono ?_
  rintro e w4 ⟨⟨x0A, x0R, rfl, ho⟩, hb⟩
  have z4 : w3.heap.size ≤ w4.heap.size := hb.size
  have B4 : Below w.heap.size w w4 := B3.trans (hb.mono (by omega))
  have p0_4 := Lib.hid (p0_3.out.step (w' := w4) (fun k h1 h2 => hb.block k (by omega)))
  clear p0_3
  have p1_4 := Lib.hid (p1_3.out.step (w' := w4) (fun k h1 h2 => hb.block k (by omega)))
  clear p1_3
  have w0_4 := Lib.hid (w0_3.out.step (w' := w4) (fun k h1 h2 => hb.block k (by omega)))
  clear w0_3
  clear hb
  have x0_4 := Lib.hid ho.in_
  clear ho
  go_wp2_with fail
  refine (toSS w4 A1 n1 c1 R1 xs1 ((HR1.out).below B4) (HN1.out) (by omega) (fun k hk => by have := row_small HT1 k (by rw [HN1.out]; exact hk); omega)).mono ?_
  rintro e w5 ⟨⟨x1A, x1R, rfl, ho⟩, hb⟩
  have z5 : w4.heap.size ≤ w5.heap.size := hb.size
  have B5 : Below w.heap.size w w5 := B4.trans (hb.mono (by omega))
  have p0_5 := Lib.hid (p0_4.out.step (w' := w5) (fun k h1 h2 => hb.block k (by omega)))
  clear p0_4
  have p1_5 := Lib.hid (p1_4.out.step (w' := w5) (fun k h1 h2 => hb.block k (by omega)))
  clear p1_4
  have w0_5 := Lib.hid (w0_4.out.step (w' := w5) (fun k h1 h2 => hb.block k (by omega)))
  clear w0_4
  have x0_5 := Lib.hid (x0_4.out.step (w' := w5) (fun k h1 h2 => hb.block k (by omega)))
  clear x0_4
  clear hb
  have x1_5 := Lib.hid ho.in_
  clear ho
  go_wp2_with fail
  refine (implProductHadamard_c w5 x0A n0 n0 x0R xs0 x0_5.out.own.rd (HN0.out) hw0 (by omega) x1A n1 n1 x1R xs1 x1_5.out.own.rd (HN1.out) hw1 (by omega)).mono ?_
  rintro e w6 ⟨⟨g0A, g0n, g0c, g0R, rfl, g0hn, ho⟩, hb⟩
  obtain rfl : w0n = g0n := HL.out.symm.trans g0hn
  clear g0hn
  have z6 : w5.heap.size ≤ w6.heap.size := hb.size
  have B6 : Below w.heap.size w w6 := B5.trans (hb.mono (by omega))
  have p0_6 := Lib.hid (p0_5.out.step (w' := w6) (fun k h1 h2 => hb.block k (by omega)))
  clear p0_5
  have p1_6 := Lib.hid (p1_5.out.step (w' := w6) (fun k h1 h2 => hb.block k (by omega)))
  clear p1_5
  have w0_6 := Lib.hid (w0_5.out.step (w' := w6) (fun k h1 h2 => hb.block k (by omega)))
  clear w0_5
  have x0_6 := Lib.hid (x0_5.out.step (w' := w6) (fun k h1 h2 => hb.block k (by omega)))
  clear x0_5
  have x1_6 := Lib.hid (x1_5.out.step (w' := w6) (fun k h1 h2 => hb.block k (by omega)))
  clear x1_5
  clear hb
  have g0_6 := Lib.hid ho.in_
  clear ho
  go_wp2_with fail
  refine (eqSS_v w6 g0_6.out.own.rd w0_6.out.own.rd (HL.out) (by have := HL.out; omega) (fun k hk => by have := row_small HS k hk; omega)).mono ?_
  rintro e w7 ⟨rfl, hb⟩
  have z7 : w6.heap.size ≤ w7.heap.size := hb.size
  have B7 : Below w.heap.size w w7 := B6.trans (hb.mono (by omega))
  have p0_7 := Lib.hid (p0_6.out.step (w' := w7) (fun k h1 h2 => hb.block k (by omega)))
  clear p0_6
  have p1_7 := Lib.hid (p1_6.out.step (w' := w7) (fun k h1 h2 => hb.block k (by omega)))
  clear p1_6
  have w0_7 := Lib.hid (w0_6.out.step (w' := w7) (fun k h1 h2 => hb.block k (by omega)))
  clear w0_6
  have x0_7 := Lib.hid (x0_6.out.step (w' := w7) (fun k h1 h2 => hb.block k (by omega)))
  clear x0_6
  have x1_7 := Lib.hid (x1_6.out.step (w' := w7) (fun k h1 h2 => hb.block k (by omega)))
  clear x1_6
  have g0_7 := Lib.hid (g0_6.out.step (w' := w7) (fun k h1 h2 => hb.block k (by omega)))
  clear g0_6
  clear hb
  go_wp2_with fail
  refine (toSS w7 A0 n0 c0 R0 xs0 ((HR0.out).below B7) (HN0.out) (by omega) (fun k hk => by have := row_small HT0 k (by rw [HN0.out]; exact hk); omega)).mono ?_
  rintro e w8 ⟨⟨y0A, y0R, rfl, ho⟩, hb⟩
  have z8 : w7.heap.size ≤ w8.heap.size := hb.size
  have B8 : Below w.heap.size w w8 := B7.trans (hb.mono (by omega))
  have p0_8 := Lib.hid (p0_7.out.step (w' := w8) (fun k h1 h2 => hb.block k (by omega)))
  clear p0_7
  have p1_8 := Lib.hid (p1_7.out.step (w' := w8) (fun k h1 h2 => hb.block k (by omega)))
  clear p1_7
  have w0_8 := Lib.hid (w0_7.out.step (w' := w8) (fun k h1 h2 => hb.block k (by omega)))
  clear w0_7
  have x0_8 := Lib.hid (x0_7.out.step (w' := w8) (fun k h1 h2 => hb.block k (by omega)))
  clear x0_7
  have x1_8 := Lib.hid (x1_7.out.step (w' := w8) (fun k h1 h2 => hb.block k (by omega)))
  clear x1_7
  have g0_8 := Lib.hid (g0_7.out.step (w' := w8) (fun k h1 h2 => hb.block k (by omega)))
  clear g0_7
  clear hb
  have y0_8 := Lib.hid ho.in_
  clear ho
  go_wp2_with fail
  refine (eqSS_v w8 x0_8.out.own.rd y0_8.out.own.rd (HN0.out) (by have := HN0.out; omega) (fun k hk => by have := row_small HT0 k hk; omega)).mono ?_
  rintro e w9 ⟨rfl, hb⟩
  have z9 : w8.heap.size ≤ w9.heap.size := hb.size
  have B9 : Below w.heap.size w w9 := B8.trans (hb.mono (by omega))
  have p0_9 := Lib.hid (p0_8.out.step (w' := w9) (fun k h1 h2 => hb.block k (by omega)))
  clear p0_8
  have p1_9 := Lib.hid (p1_8.out.step (w' := w9) (fun k h1 h2 => hb.block k (by omega)))
  clear p1_8
  have w0_9 := Lib.hid (w0_8.out.step (w' := w9) (fun k h1 h2 => hb.block k (by omega)))
  clear w0_8
  have x0_9 := Lib.hid (x0_8.out.step (w' := w9) (fun k h1 h2 => hb.block k (by omega)))
  clear x0_8
  have x1_9 := Lib.hid (x1_8.out.step (w' := w9) (fun k h1 h2 => hb.block k (by omega)))
  clear x1_8
  have g0_9 := Lib.hid (g0_8.out.step (w' := w9) (fun k h1 h2 => hb.block k (by omega)))
  clear g0_8
  have y0_9 := Lib.hid (y0_8.out.step (w' := w9) (fun k h1 h2 => hb.block k (by omega)))
  clear y0_8
  clear hb
  go_wp2_with fail
  refine (toSS w9 A1 n1 c1 R1 xs1 ((HR1.out).below B9) (HN1.out) (by omega) (fun k hk => by have := row_small HT1 k (by rw [HN1.out]; exact hk); omega)).mono ?_
  rintro e w10 ⟨⟨y1A, y1R, rfl, ho⟩, hb⟩
  have z10 : w9.heap.size ≤ w10.heap.size := hb.size
  have B10 : Below w.heap.size w w10 := B9.trans (hb.mono (by omega))
  have p0_10 := Lib.hid (p0_9.out.step (w' := w10) (fun k h1 h2 => hb.block k (by omega)))
  clear p0_9
  have p1_10 := Lib.hid (p1_9.out.step (w' := w10) (fun k h1 h2 => hb.block k (by omega)))
  clear p1_9
  have w0_10 := Lib.hid (w0_9.out.step (w' := w10) (fun k h1 h2 => hb.block k (by omega)))
  clear w0_9
  have x0_10 := Lib.hid (x0_9.out.step (w' := w10) (fun k h1 h2 => hb.block k (by omega)))
  clear x0_9
  have x1_10 := Lib.hid (x1_9.out.step (w' := w10) (fun k h1 h2 => hb.block k (by omega)))
  clear x1_9
  have g0_10 := Lib.hid (g0_9.out.step (w' := w10) (fun k h1 h2 => hb.block k (by omega)))
  clear g0_9
  have y0_10 := Lib.hid (y0_9.out.step (w' := w10) (fun k h1 h2 => hb.block k (by omega)))
  clear y0_9
  clear hb
  have y1_10 := Lib.hid ho.in_
  clear ho
  go_wp2_with fail
  refine (eqSS_v w10 x1_10.out.own.rd y1_10.out.own.rd (HN1.out) (by have := HN1.out; omega) (fun k hk => by have := row_small HT1 k hk; omega)).mono ?_
  rintro e w11 ⟨rfl, hb⟩
  have z11 : w10.heap.size ≤ w11.heap.size := hb.size
  have B11 : Below w.heap.size w w11 := B10.trans (hb.mono (by omega))
  have p0_11 := Lib.hid (p0_10.out.step (w' := w11) (fun k h1 h2 => hb.block k (by omega)))
  clear p0_10
  have p1_11 := Lib.hid (p1_10.out.step (w' := w11) (fun k h1 h2 => hb.block k (by omega)))
  clear p1_10
  have w0_11 := Lib.hid (w0_10.out.step (w' := w11) (fun k h1 h2 => hb.block k (by omega)))
  clear w0_10
  have x0_11 := Lib.hid (x0_10.out.step (w' := w11) (fun k h1 h2 => hb.block k (by omega)))
  clear x0_10
  have x1_11 := Lib.hid (x1_10.out.step (w' := w11) (fun k h1 h2 => hb.block k (by omega)))
  clear x1_10
  have g0_11 := Lib.hid (g0_10.out.step (w' := w11) (fun k h1 h2 => hb.block k (by omega)))
  clear g0_10
  have y0_11 := Lib.hid (y0_10.out.step (w' := w11) (fun k h1 h2 => hb.block k (by omega)))
  clear y0_10
  have y1_11 := Lib.hid (y1_10.out.step (w' := w11) (fun k h1 h2 => hb.block k (by omega)))
  clear y1_10
  clear hb
  go_wp2_with fail
  refine (markSS_v w11 (1) x0_11.out (HN0.out) (by omega) (by omega)).mono ?_
  rintro e w12 ⟨rfl, ⟨x0Y, ho, x0hM⟩, hb⟩
  have z12 : w11.heap.size ≤ w12.heap.size := hb.size
  have B12 : Below w.heap.size w w12 := B11.trans (hb.below (by omega) (by omega))
  have p0_12 := Lib.hid (p0_11.out.step (w' := w12) (fun k h1 h2 => hb.block k (by omega) (by first | exact Or.inl (by omega) | exact Or.inr (by omega))))
  clear p0_11
  have p1_12 := Lib.hid (p1_11.out.step (w' := w12) (fun k h1 h2 => hb.block k (by omega) (by first | exact Or.inl (by omega) | exact Or.inr (by omega))))
  clear p1_11
  have w0_12 := Lib.hid (w0_11.out.step (w' := w12) (fun k h1 h2 => hb.block k (by omega) (by first | exact Or.inl (by omega) | exact Or.inr (by omega))))
  clear w0_11
  have x1_12 := Lib.hid (x1_11.out.step (w' := w12) (fun k h1 h2 => hb.block k (by omega) (by first | exact Or.inl (by omega) | exact Or.inr (by omega))))
  clear x1_11
  have g0_12 := Lib.hid (g0_11.out.step (w' := w12) (fun k h1 h2 => hb.block k (by omega) (by first | exact Or.inl (by omega) | exact Or.inr (by omega))))
  clear g0_11
  have y0_12 := Lib.hid (y0_11.out.step (w' := w12) (fun k h1 h2 => hb.block k (by omega) (by first | exact Or.inl (by omega) | exact Or.inr (by omega))))
  clear y0_11
  have y1_12 := Lib.hid (y1_11.out.step (w' := w12) (fun k h1 h2 => hb.block k (by omega) (by first | exact Or.inl (by omega) | exact Or.inr (by omega))))
  clear y1_11
  clear hb
  have x0_12 := Lib.hid ho
  clear ho x0_11
  have x0HM := Lib.hid x0hM
  clear x0hM
  go_wp2_with fail
  refine (markSS_v w12 (1 + ((tot (xs0) : Nat) : Int)) x1_12.out (HN1.out) (by omega) (by omega)).mono ?_
  rintro e w13 ⟨rfl, ⟨x1Y, ho, x1hM⟩, hb⟩
  have z13 : w12.heap.size ≤ w13.heap.size := hb.size
  have B13 : Below w.heap.size w w13 := B12.trans (hb.below (by omega) (by omega))
  have p0_13 := Lib.hid (p0_12.out.step (w' := w13) (fun k h1 h2 => hb.block k (by omega) (by first | exact Or.inl (by omega) | exact Or.inr (by omega))))
  clear p0_12
  have p1_13 := Lib.hid (p1_12.out.step (w' := w13) (fun k h1 h2 => hb.block k (by omega) (by first | exact Or.inl (by omega) | exact Or.inr (by omega))))
  clear p1_12
  have w0_13 := Lib.hid (w0_12.out.step (w' := w13) (fun k h1 h2 => hb.block k (by omega) (by first | exact Or.inl (by omega) | exact Or.inr (by omega))))
  clear w0_12
  have x0_13 := Lib.hid (x0_12.out.step (w' := w13) (fun k h1 h2 => hb.block k (by omega) (by first | exact Or.inl (by omega) | exact Or.inr (by omega))))
  clear x0_12
  have g0_13 := Lib.hid (g0_12.out.step (w' := w13) (fun k h1 h2 => hb.block k (by omega) (by first | exact Or.inl (by omega) | exact Or.inr (by omega))))
  clear g0_12
  have y0_13 := Lib.hid (y0_12.out.step (w' := w13) (fun k h1 h2 => hb.block k (by omega) (by first | exact Or.inl (by omega) | exact Or.inr (by omega))))
  clear y0_12
  have y1_13 := Lib.hid (y1_12.out.step (w' := w13) (fun k h1 h2 => hb.block k (by omega) (by first | exact Or.inl (by omega) | exact Or.inr (by omega))))
  clear y1_12
  clear hb
  have x1_13 := Lib.hid ho
  clear ho x1_12
  have x1HM := Lib.hid x1hM
  clear x1hM
  go_wp2_with fail
  refine (eqSS_v w13 g0_13.out.own.rd w0_13.out.own.rd (HL.out) (by have := HL.out; omega) (fun k hk => by have := row_small HS k hk; omega)).mono ?_
  rintro e w14 ⟨rfl, hb⟩
  have z14 : w13.heap.size ≤ w14.heap.size := hb.size
  have B14 : Below w.heap.size w w14 := B13.trans (hb.mono (by omega))
  have p0_14 := Lib.hid (p0_13.out.step (w' := w14) (fun k h1 h2 => hb.block k (by omega)))
  clear p0_13
  have p1_14 := Lib.hid (p1_13.out.step (w' := w14) (fun k h1 h2 => hb.block k (by omega)))
  clear p1_13
  have w0_14 := Lib.hid (w0_13.out.step (w' := w14) (fun k h1 h2 => hb.block k (by omega)))
  clear w0_13
  have x0_14 := Lib.hid (x0_13.out.step (w' := w14) (fun k h1 h2 => hb.block k (by omega)))
  clear x0_13
  have x1_14 := Lib.hid (x1_13.out.step (w' := w14) (fun k h1 h2 => hb.block k (by omega)))
  clear x1_13
  have g0_14 := Lib.hid (g0_13.out.step (w' := w14) (fun k h1 h2 => hb.block k (by omega)))
  clear g0_13
  have y0_14 := Lib.hid (y0_13.out.step (w' := w14) (fun k h1 h2 => hb.block k (by omega)))
  clear y0_13
  have y1_14 := Lib.hid (y1_13.out.step (w' := w14) (fun k h1 h2 => hb.block k (by omega)))
  clear y1_13
  clear hb
  go_wp2_with fail
  refine (markSS_v w14 (1) g0_14.out (HL.out) (by omega) (by omega)).mono ?_
  rintro e w15 ⟨rfl, ⟨g0Y, ho, g0hM⟩, hb⟩
  have z15 : w14.heap.size ≤ w15.heap.size := hb.size
  have B15 : Below w.heap.size w w15 := B14.trans (hb.below (by omega) (by omega))
  have p0_15 := Lib.hid (p0_14.out.step (w' := w15) (fun k h1 h2 => hb.block k (by omega) (by first | exact Or.inl (by omega) | exact Or.inr (by omega))))
  clear p0_14
  have p1_15 := Lib.hid (p1_14.out.step (w' := w15) (fun k h1 h2 => hb.block k (by omega) (by first | exact Or.inl (by omega) | exact Or.inr (by omega))))
  clear p1_14
  have w0_15 := Lib.hid (w0_14.out.step (w' := w15) (fun k h1 h2 => hb.block k (by omega) (by first | exact Or.inl (by omega) | exact Or.inr (by omega))))
  clear w0_14
  have x0_15 := Lib.hid (x0_14.out.step (w' := w15) (fun k h1 h2 => hb.block k (by omega) (by first | exact Or.inl (by omega) | exact Or.inr (by omega))))
  clear x0_14
  have x1_15 := Lib.hid (x1_14.out.step (w' := w15) (fun k h1 h2 => hb.block k (by omega) (by first | exact Or.inl (by omega) | exact Or.inr (by omega))))
  clear x1_14
  have y0_15 := Lib.hid (y0_14.out.step (w' := w15) (fun k h1 h2 => hb.block k (by omega) (by first | exact Or.inl (by omega) | exact Or.inr (by omega))))
  clear y0_14
  have y1_15 := Lib.hid (y1_14.out.step (w' := w15) (fun k h1 h2 => hb.block k (by omega) (by first | exact Or.inl (by omega) | exact Or.inr (by omega))))
  clear y1_14
  clear hb
  have g0_15 := Lib.hid ho
  clear ho g0_14
  have g0HM := Lib.hid g0hM
  clear g0hM
  go_wp2_with fail
  refine (heldSS_v w15 (1) g0_15.out.own.rd (g0HM.out) (HL.out) (by omega) (by omega)).mono ?_
  rintro e w16 ⟨rfl, hb⟩
  have z16 : w15.heap.size ≤ w16.heap.size := hb.size
  have B16 : Below w.heap.size w w16 := B15.trans (hb.mono (by omega))
  have p0_16 := Lib.hid (p0_15.out.step (w' := w16) (fun k h1 h2 => hb.block k (by omega)))
  clear p0_15
  have p1_16 := Lib.hid (p1_15.out.step (w' := w16) (fun k h1 h2 => hb.block k (by omega)))
  clear p1_15
  have w0_16 := Lib.hid (w0_15.out.step (w' := w16) (fun k h1 h2 => hb.block k (by omega)))
  clear w0_15
  have x0_16 := Lib.hid (x0_15.out.step (w' := w16) (fun k h1 h2 => hb.block k (by omega)))
  clear x0_15
  have x1_16 := Lib.hid (x1_15.out.step (w' := w16) (fun k h1 h2 => hb.block k (by omega)))
  clear x1_15
  have g0_16 := Lib.hid (g0_15.out.step (w' := w16) (fun k h1 h2 => hb.block k (by omega)))
  clear g0_15
  have y0_16 := Lib.hid (y0_15.out.step (w' := w16) (fun k h1 h2 => hb.block k (by omega)))
  clear y0_15
  have y1_16 := Lib.hid (y1_15.out.step (w' := w16) (fun k h1 h2 => hb.block k (by omega)))
  clear y1_15
  clear hb
  go_wp2_with fail
  refine (toSS w16 A0 n0 c0 R0 xs0 ((HR0.out).below B16) (HN0.out) (by omega) (fun k hk => by have := row_small HT0 k (by rw [HN0.out]; exact hk); omega)).mono ?_
  rintro e w17 ⟨⟨z0A, z0R, rfl, ho⟩, hb⟩
  have z17 : w16.heap.size ≤ w17.heap.size := hb.size
  have B17 : Below w.heap.size w w17 := B16.trans (hb.mono (by omega))
  have p0_17 := Lib.hid (p0_16.out.step (w' := w17) (fun k h1 h2 => hb.block k (by omega)))
  clear p0_16
  have p1_17 := Lib.hid (p1_16.out.step (w' := w17) (fun k h1 h2 => hb.block k (by omega)))
  clear p1_16
  have w0_17 := Lib.hid (w0_16.out.step (w' := w17) (fun k h1 h2 => hb.block k (by omega)))
  clear w0_16
  have x0_17 := Lib.hid (x0_16.out.step (w' := w17) (fun k h1 h2 => hb.block k (by omega)))
  clear x0_16
  have x1_17 := Lib.hid (x1_16.out.step (w' := w17) (fun k h1 h2 => hb.block k (by omega)))
  clear x1_16
  have g0_17 := Lib.hid (g0_16.out.step (w' := w17) (fun k h1 h2 => hb.block k (by omega)))
  clear g0_16
  have y0_17 := Lib.hid (y0_16.out.step (w' := w17) (fun k h1 h2 => hb.block k (by omega)))
  clear y0_16
  have y1_17 := Lib.hid (y1_16.out.step (w' := w17) (fun k h1 h2 => hb.block k (by omega)))
  clear y1_16
  clear hb
  have z0_17 := Lib.hid ho.in_
  clear ho
  go_wp2_with fail
  refine (toSS w17 A1 n1 c1 R1 xs1 ((HR1.out).below B17) (HN1.out) (by omega) (fun k hk => by have := row_small HT1 k (by rw [HN1.out]; exact hk); omega)).mono ?_
  rintro e w18 ⟨⟨z1A, z1R, rfl, ho⟩, hb⟩
  have z18 : w17.heap.size ≤ w18.heap.size := hb.size
  have B18 : Below w.heap.size w w18 := B17.trans (hb.mono (by omega))
  have p0_18 := Lib.hid (p0_17.out.step (w' := w18) (fun k h1 h2 => hb.block k (by omega)))
  clear p0_17
  have p1_18 := Lib.hid (p1_17.out.step (w' := w18) (fun k h1 h2 => hb.block k (by omega)))
  clear p1_17
  have w0_18 := Lib.hid (w0_17.out.step (w' := w18) (fun k h1 h2 => hb.block k (by omega)))
  clear w0_17
  have x0_18 := Lib.hid (x0_17.out.step (w' := w18) (fun k h1 h2 => hb.block k (by omega)))
  clear x0_17
  have x1_18 := Lib.hid (x1_17.out.step (w' := w18) (fun k h1 h2 => hb.block k (by omega)))
  clear x1_17
  have g0_18 := Lib.hid (g0_17.out.step (w' := w18) (fun k h1 h2 => hb.block k (by omega)))
  clear g0_17
  have y0_18 := Lib.hid (y0_17.out.step (w' := w18) (fun k h1 h2 => hb.block k (by omega)))
  clear y0_17
  have y1_18 := Lib.hid (y1_17.out.step (w' := w18) (fun k h1 h2 => hb.block k (by omega)))
  clear y1_17
  have z0_18 := Lib.hid (z0_17.out.step (w' := w18) (fun k h1 h2 => hb.block k (by omega)))
  clear z0_17
  clear hb
  have z1_18 := Lib.hid ho.in_
  clear ho
  go_wp2_with fail
  refine (implProductHadamard_c w18 z0A n0 n0 z0R xs0 z0_18.out.own.rd (HN0.out) hw0 (by omega) z1A n1 n1 z1R xs1 z1_18.out.own.rd (HN1.out) hw1 (by omega)).mono ?_
  rintro e w19 ⟨⟨h0A, h0n, h0c, h0R, rfl, h0hn, ho⟩, hb⟩
  obtain rfl : w0n = h0n := HL.out.symm.trans h0hn
  clear h0hn
  have z19 : w18.heap.size ≤ w19.heap.size := hb.size
  have B19 : Below w.heap.size w w19 := B18.trans (hb.mono (by omega))
  have p0_19 := Lib.hid (p0_18.out.step (w' := w19) (fun k h1 h2 => hb.block k (by omega)))
  clear p0_18
  have p1_19 := Lib.hid (p1_18.out.step (w' := w19) (fun k h1 h2 => hb.block k (by omega)))
  clear p1_18
  have w0_19 := Lib.hid (w0_18.out.step (w' := w19) (fun k h1 h2 => hb.block k (by omega)))
  clear w0_18
  have x0_19 := Lib.hid (x0_18.out.step (w' := w19) (fun k h1 h2 => hb.block k (by omega)))
  clear x0_18
  have x1_19 := Lib.hid (x1_18.out.step (w' := w19) (fun k h1 h2 => hb.block k (by omega)))
  clear x1_18
  have g0_19 := Lib.hid (g0_18.out.step (w' := w19) (fun k h1 h2 => hb.block k (by omega)))
  clear g0_18
  have y0_19 := Lib.hid (y0_18.out.step (w' := w19) (fun k h1 h2 => hb.block k (by omega)))
  clear y0_18
  have y1_19 := Lib.hid (y1_18.out.step (w' := w19) (fun k h1 h2 => hb.block k (by omega)))
  clear y1_18
  have z0_19 := Lib.hid (z0_18.out.step (w' := w19) (fun k h1 h2 => hb.block k (by omega)))
  clear z0_18
  have z1_19 := Lib.hid (z1_18.out.step (w' := w19) (fun k h1 h2 => hb.block k (by omega)))
  clear z1_18
  clear hb
  have h0_19 := Lib.hid ho.in_
  clear ho
  go_wp2_with fail
  refine (eqSS_v w19 h0_19.out.own.rd w0_19.out.own.rd (HL.out) (by have := HL.out; omega) (fun k hk => by have := row_small HS k hk; omega)).mono ?_
  rintro e w20 ⟨rfl, hb⟩
  have z20 : w19.heap.size ≤ w20.heap.size := hb.size
  have B20 : Below w.heap.size w w20 := B19.trans (hb.mono (by omega))
  have p0_20 := Lib.hid (p0_19.out.step (w' := w20) (fun k h1 h2 => hb.block k (by omega)))
  clear p0_19
  have p1_20 := Lib.hid (p1_19.out.step (w' := w20) (fun k h1 h2 => hb.block k (by omega)))
  clear p1_19
  have w0_20 := Lib.hid (w0_19.out.step (w' := w20) (fun k h1 h2 => hb.block k (by omega)))
  clear w0_19
  have x0_20 := Lib.hid (x0_19.out.step (w' := w20) (fun k h1 h2 => hb.block k (by omega)))
  clear x0_19
  have x1_20 := Lib.hid (x1_19.out.step (w' := w20) (fun k h1 h2 => hb.block k (by omega)))
  clear x1_19
  have g0_20 := Lib.hid (g0_19.out.step (w' := w20) (fun k h1 h2 => hb.block k (by omega)))
  clear g0_19
  have y0_20 := Lib.hid (y0_19.out.step (w' := w20) (fun k h1 h2 => hb.block k (by omega)))
  clear y0_19
  have y1_20 := Lib.hid (y1_19.out.step (w' := w20) (fun k h1 h2 => hb.block k (by omega)))
  clear y1_19
  have z0_20 := Lib.hid (z0_19.out.step (w' := w20) (fun k h1 h2 => hb.block k (by omega)))
  clear z0_19
  have z1_20 := Lib.hid (z1_19.out.step (w' := w20) (fun k h1 h2 => hb.block k (by omega)))
  clear z1_19
  have h0_20 := Lib.hid (h0_19.out.step (w' := w20) (fun k h1 h2 => hb.block k (by omega)))
  clear h0_19
  clear hb
  go_wp2_with fail
  refine (heldSS_v w20 (1) g0_20.out.own.rd (g0HM.out) (HL.out) (by omega) (by omega)).mono ?_
  rintro e w21 ⟨rfl, hb⟩
  have z21 : w20.heap.size ≤ w21.heap.size := hb.size
  have B21 : Below w.heap.size w w21 := B20.trans (hb.mono (by omega))
  have p0_21 := Lib.hid (p0_20.out.step (w' := w21) (fun k h1 h2 => hb.block k (by omega)))
  clear p0_20
  have p1_21 := Lib.hid (p1_20.out.step (w' := w21) (fun k h1 h2 => hb.block k (by omega)))
  clear p1_20
  have w0_21 := Lib.hid (w0_20.out.step (w' := w21) (fun k h1 h2 => hb.block k (by omega)))
  clear w0_20
  have x0_21 := Lib.hid (x0_20.out.step (w' := w21) (fun k h1 h2 => hb.block k (by omega)))
  clear x0_20
  have x1_21 := Lib.hid (x1_20.out.step (w' := w21) (fun k h1 h2 => hb.block k (by omega)))
  clear x1_20
  have g0_21 := Lib.hid (g0_20.out.step (w' := w21) (fun k h1 h2 => hb.block k (by omega)))
  clear g0_20
  have y0_21 := Lib.hid (y0_20.out.step (w' := w21) (fun k h1 h2 => hb.block k (by omega)))
  clear y0_20
  have y1_21 := Lib.hid (y1_20.out.step (w' := w21) (fun k h1 h2 => hb.block k (by omega)))
  clear y1_20
  have z0_21 := Lib.hid (z0_20.out.step (w' := w21) (fun k h1 h2 => hb.block k (by omega)))
  clear z0_20
  have z1_21 := Lib.hid (z1_20.out.step (w' := w21) (fun k h1 h2 => hb.block k (by omega)))
  clear z1_20
  have h0_21 := Lib.hid (h0_20.out.step (w' := w21) (fun k h1 h2 => hb.block k (by omega)))
  clear h0_20
  clear hb
  go_wp2
  go_ret
  exact ⟨rfl, B21⟩

theorem walk (w : World) (A0 : Option Addr) (n0 c0 : Nat) (R0 : Spine) (xs0 : List (List Int)) (hr0 : RdM w A0 c0 R0 xs0) (hn0 : xs0.length = n0) (hw0 : WfM xs0) (A1 : Option Addr) (n1 c1 : Nat) (R1 : Spine) (xs1 : List (List Int)) (hr1 : RdM w A1 c1 R1 xs1) (hn1 : xs1.length = n1) (hw1 : WfM xs1) :
    Calls Try.prog 12 #[.slice A0 n0 c0, .slice A1 n1 c1] w fun e w' => e = .returned (.bool true) ∧ Below w.heap.size w w' := by
  rcases Int.lt_or_le 1048576 (((n0 : Int) + (tot xs0 : Nat))) with h0 | h0
  · exact walkOut0 w A0 n0 c0 R0 xs0 hr0 hn0 hw0 A1 n1 c1 R1 xs1 hr1 hn1 hw1  h0
  rcases Int.lt_or_le 1048576 (((n0 : Int) + (tot xs0 : Nat)) + ((n1 : Int) + (tot xs1 : Nat))) with h1 | h1
  · exact walkOut1 w A0 n0 c0 R0 xs0 hr0 hn0 hw0 A1 n1 c1 R1 xs1 hr1 hn1 hw1 h0 h1
  exact walkIn w A0 n0 c0 R0 xs0 hr0 hn0 hw0 A1 n1 c1 R1 xs1 hr1 hn1 hw1 h0 h1

set_option maxRecDepth 100000 in
theorem lifted (os : Os) (started : os.Started) (H : Type) (enc : TypeId × Value → H) :
    ReturnsInHanded {} Try.checked os 12 .any (Rows.fnExactProductHadamardSpec.pre6 enc Try.prog Try.f12 Rows.fnExactProductHadamardRow.domain false) (Rows.fnExactProductHadamardSpec.post enc Try.prog Try.f12 false true false false) := by
  refine returnsInHanded_of_change (C := Try.checked) own started (by kernel_rfl) Try.func12
    (ChangeSpec.witness6 (enc := enc) (C := Try.checked) false ⟨#[], #[.slice none 0 0, .slice none 0 0], []⟩ 8 (by kernel_rfl) (by kernel_rfl) (by kernel_rfl) (by kernel_rfl)) ?_
  intro W base args ds gs before hval0 hW hcnd _
  have hval : ∀ (j : Nat) t v, Try.f12.params[j]? = some t → args[j]? = some v → Value.okWide Try.prog W .any base t v := hval0
  have hW' := hW
  obtain ⟨p, q, hA0, hV, rfl, hfz, hnd⟩ := hW
  have hA : DataW.TrodAll enc Try.prog W 0 (fun _ => true) true Try.f12.params.toList args.toList ds p := hA0
  rw [Try.params12] at hA hval
  obtain ⟨v0, vs0, d0, ds0, p0, q0, hargs, rfl, rfl, h0, r0⟩ := trodAll_cons hA
  obtain ⟨v1, vs1, d1, ds1, p1, q1, rfl, rfl, rfl, h1, r1⟩ := trodAll_cons r0
  obtain ⟨rfl, rfl, rfl⟩ := trodAll_nil r1
  obtain rfl : args = #[v0, v1] := by cases args; simp_all
  obtain ⟨rfl, rfl⟩ := trodVars_none hV
  obtain ⟨A0, n0, c0, rfl⟩ := okWide_slice Try.underlying27 (hval 0 27 v0 rfl rfl)
  have k0 := h0
  have lt0 : ∀ x ∈ p0, x.block < W.heap.size := by obtain ⟨m, hm⟩ := k0; exact DataW.trod_lt m _ _ _ hm
  obtain ⟨R0, xs0, hr0, hn0, hw0⟩ := open_M h0
  obtain ⟨A1, n1, c1, rfl⟩ := okWide_slice Try.underlying27 (hval 1 27 v1 rfl rfl)
  have k1 := h1
  have lt1 : ∀ x ∈ p1, x.block < W.heap.size := by obtain ⟨m, hm⟩ := k1; exact DataW.trod_lt m _ _ _ hm
  obtain ⟨R1, xs1, hr1, hn1, hw1⟩ := open_M h1
  clear hA0 hval0
  refine (walk W A0 n0 c0 R0 xs0 hr0 hn0 hw0 A1 n1 c1 R1 xs1 hr1 hn1 hw1).mono fun e W' ⟨he, bel⟩ => ?_
  subst he
  exact ⟨_, rfl, _, _, _, [], _, [], hW', trodAll_mk1 (shut_bool Try.underlying4 _), (trodAll_cons_mk (Below.trod laidOut (by kernel_rfl) (of_decide_eq_true (by kernel_rfl)) k0 bel lt0) (trodAll_cons_mk (Below.trod laidOut (by kernel_rfl) (of_decide_eq_true (by kernel_rfl)) k1 bel lt1) trodAll_mk0)), rfl, bel.frame _, fun h => by cases h⟩

theorem over : Rows.fnExactProductHadamardRow.holds Try.pinned (OpenSpec.ofChange Rows.fnExactProductHadamardSpec) :=
  OpenClaim.holds_of_wide 12 Try.f12 rfl rfl rfl rfl rfl rfl rfl ⟨rfl, rfl, rfl, rfl, rfl⟩ rfl rfl rfl rfl rfl (by kernel_rfl) Try.func12 (by kernel_rfl)
    (of_decide_eq_true (by kernel_rfl)) (by unfold Func.isWrapper; first | (rw [if_pos (by decide +kernel)]; kernel_rfl) | (rw [if_neg (by decide +kernel)]; exact ⟨rfl, rfl⟩))
    (fun os started H enc _ => lifted os started H enc)

/-- The statement. -/
theorem proved : Rows.FnExactProductHadamardSaid := over
#print axioms proved
end Go.Proofs.Ytjoihaghoahnlaa.lawProductHadamard
