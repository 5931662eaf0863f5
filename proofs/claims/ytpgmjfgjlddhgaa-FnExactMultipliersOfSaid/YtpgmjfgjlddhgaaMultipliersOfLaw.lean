/-
  The program's MultipliersOf returns what the reference's returns: the statement FnExactMultipliersOfSaid. Conditions: none.
-/
import Derived.Test.YtpgmjfgjlddhgaaRows
import Derived.Test.YtpgmjfgjlddhgaaMult2
import Derived.Test.YtpgmjfgjlddhgaaLawFrame
namespace Go.Proofs.Ytpgmjfgjlddhgaa.lawMultipliersOf
open Go.ChangeShapes Go.WideShapes Go.ChangeAt Go.RowKit Go.Deep
set_option linter.unusedVariables false
set_option linter.unusedSimpArgs false

theorem own : ownKnob Try.prog.godebug = none := by kernel_rfl
theorem laidOut : laidOutB Try.prog = true := by kernel_rfl

set_option maxHeartbeats 400000 in
theorem walkOut1 (w : World) (x0 : Int) (hb0 : -9223372036854775808 ≤ x0 ∧ x0 ≤ 9223372036854775807) (A1 : Option Addr) (n1 c1 : Nat) (xs1 : List Int) (hr1 : RdI w A1 c1 xs1) (hn1 : xs1.length = n1) (hw1 : WfL xs1) (hz : 1048576 < (n1 : Int)) :
    Calls Try.prog 12 #[.int .i64 x0, .slice A1 n1 c1] w fun e w' => e = .returned (.bool true) ∧ Below w.heap.size w w' := by
  have HR1 := Lib.hid hr1
  have HN1 := Lib.hid hn1
  have hm1 : n1 ≤ 9223372036854775807 := by have h1 := hr1.le; have h2 := hr1.cap; unfold maxLen at h2; omega
  clear hr1 hn1
  go_enter Try.func12, Try.ntmps12
  go_wp2
  go_ret
  exact ⟨rfl, by first | exact Below.refl _ _ | exact below_boxed _ _ | exact (below_boxed _ _).alloc (by simp <;> omega) _⟩

set_option maxHeartbeats 4000000 in
set_option maxRecDepth 100000 in
theorem walkIn (w : World) (x0 : Int) (hb0 : -9223372036854775808 ≤ x0 ∧ x0 ≤ 9223372036854775807) (A1 : Option Addr) (n1 c1 : Nat) (xs1 : List Int) (hr1 : RdI w A1 c1 xs1) (hn1 : xs1.length = n1) (hw1 : WfL xs1) (hz1 : (n1 : Int) ≤ 1048576) :
    Calls Try.prog 12 #[.int .i64 x0, .slice A1 n1 c1] w fun e w' => e = .returned (.bool true) ∧ Below w.heap.size w w' := by
  have hsmall : (mlL x0 xs1).length ≤ 1048576 := MultipliersOf_small x0 xs1
  have HR1 := Lib.hid hr1
  have HN1 := Lib.hid hn1
  have hm1 : n1 ≤ 9223372036854775807 := by have h1 := hr1.le; have h2 := hr1.cap; unfold maxLen at h2; omega
  clear hr1 hn1
  go_enter Try.func12, Try.ntmps12
  go_wp2_with fail
  refine (toS w A1 n1 c1 xs1 ((HR1.out).below (Below.refl _ _)) (HN1.out) (by omega)).mono ?_
  rintro e w1 ⟨⟨p1A, rfl, ho⟩, hb⟩
  have z1 : w.heap.size ≤ w1.heap.size := hb.size
  have B1 : Below w.heap.size w w1 := (hb.mono (by omega))
  clear hb
  have p1_1 := Lib.hid ho.in_
  clear ho
  go_wp2_with fail
  refine (specMultipliersOf_c w1 x0 hb0 p1A n1 n1 xs1 p1_1.out.own.rd (HN1.out) hw1 (by omega) p1_1.out.own.nil_cap).mono ?_
  rintro e w2 ⟨⟨w0A, w0n, w0c, rfl, w0hn, ho⟩, hb⟩
  have HL := Lib.hid w0hn
  have hsm : w0n ≤ 1048576 := by have := hsmall; have h2 := HL.out; omega
  clear w0hn
  have z2 : w1.heap.size ≤ w2.heap.size := hb.size
  have B2 : Below w.heap.size w w2 := B1.trans (hb.mono (by omega))
  have p1_2 := Lib.hid (p1_1.out.step (w' := w2) (fun k h1 h2 => hb.block k (by omega)))
  clear p1_1
  clear hb
  have w0_2 := Lib.hid ho.in_
  clear ho
  go_wp2_with fail
  refine (toS w2 A1 n1 c1 xs1 ((HR1.out).below B2) (HN1.out) (by omega)).mono ?_
  rintro e w3 ⟨⟨x1A, rfl, ho⟩, hb⟩
  have z3 : w2.heap.size ≤ w3.heap.size := hb.size
  have B3 : Below w.heap.size w w3 := B2.trans (hb.mono (by omega))
  have p1_3 := Lib.hid (p1_2.out.step (w' := w3) (fun k h1 h2 => hb.block k (by omega)))
  clear p1_2
  have w0_3 := Lib.hid (w0_2.out.step (w' := w3) (fun k h1 h2 => hb.block k (by omega)))
  clear w0_2
  clear hb
  have x1_3 := Lib.hid ho.in_
  clear ho
  go_wp2_with fail
  refine (implMultipliersOf_c w3 x0 hb0 x1A n1 n1 xs1 x1_3.out.own.rd (HN1.out) hw1 (by omega) x1_3.out.own.nil_cap).mono ?_
  rintro e w4 ⟨⟨g0A, g0n, g0c, rfl, g0hn, ho⟩, hb⟩
  obtain rfl : w0n = g0n := HL.out.symm.trans g0hn
  clear g0hn
  have z4 : w3.heap.size ≤ w4.heap.size := hb.size
  have B4 : Below w.heap.size w w4 := B3.trans (hb.mono (by omega))
  have p1_4 := Lib.hid (p1_3.out.step (w' := w4) (fun k h1 h2 => hb.block k (by omega)))
  clear p1_3
  have w0_4 := Lib.hid (w0_3.out.step (w' := w4) (fun k h1 h2 => hb.block k (by omega)))
  clear w0_3
  have x1_4 := Lib.hid (x1_3.out.step (w' := w4) (fun k h1 h2 => hb.block k (by omega)))
  clear x1_3
  clear hb
  have g0_4 := Lib.hid ho.in_
  clear ho
  go_wp2_with fail
  refine (eqS_v w4 g0_4.out.own.rd w0_4.out.own.rd (HL.out) (by have := HL.out; omega)).mono ?_
  rintro e w5 ⟨rfl, hb⟩
  have z5 : w4.heap.size ≤ w5.heap.size := hb.size
  have B5 : Below w.heap.size w w5 := B4.trans (hb.mono (by omega))
  have p1_5 := Lib.hid (p1_4.out.step (w' := w5) (fun k h1 h2 => hb.block k (by omega)))
  clear p1_4
  have w0_5 := Lib.hid (w0_4.out.step (w' := w5) (fun k h1 h2 => hb.block k (by omega)))
  clear w0_4
  have x1_5 := Lib.hid (x1_4.out.step (w' := w5) (fun k h1 h2 => hb.block k (by omega)))
  clear x1_4
  have g0_5 := Lib.hid (g0_4.out.step (w' := w5) (fun k h1 h2 => hb.block k (by omega)))
  clear g0_4
  clear hb
  go_wp2_with fail
  refine (toS w5 A1 n1 c1 xs1 ((HR1.out).below B5) (HN1.out) (by omega)).mono ?_
  rintro e w6 ⟨⟨y1A, rfl, ho⟩, hb⟩
  have z6 : w5.heap.size ≤ w6.heap.size := hb.size
  have B6 : Below w.heap.size w w6 := B5.trans (hb.mono (by omega))
  have p1_6 := Lib.hid (p1_5.out.step (w' := w6) (fun k h1 h2 => hb.block k (by omega)))
  clear p1_5
  have w0_6 := Lib.hid (w0_5.out.step (w' := w6) (fun k h1 h2 => hb.block k (by omega)))
  clear w0_5
  have x1_6 := Lib.hid (x1_5.out.step (w' := w6) (fun k h1 h2 => hb.block k (by omega)))
  clear x1_5
  have g0_6 := Lib.hid (g0_5.out.step (w' := w6) (fun k h1 h2 => hb.block k (by omega)))
  clear g0_5
  clear hb
  have y1_6 := Lib.hid ho.in_
  clear ho
  go_wp2_with fail
  refine (eqS_v w6 x1_6.out.own.rd y1_6.out.own.rd (HN1.out) (by have := HN1.out; omega)).mono ?_
  rintro e w7 ⟨rfl, hb⟩
  have z7 : w6.heap.size ≤ w7.heap.size := hb.size
  have B7 : Below w.heap.size w w7 := B6.trans (hb.mono (by omega))
  have p1_7 := Lib.hid (p1_6.out.step (w' := w7) (fun k h1 h2 => hb.block k (by omega)))
  clear p1_6
  have w0_7 := Lib.hid (w0_6.out.step (w' := w7) (fun k h1 h2 => hb.block k (by omega)))
  clear w0_6
  have x1_7 := Lib.hid (x1_6.out.step (w' := w7) (fun k h1 h2 => hb.block k (by omega)))
  clear x1_6
  have g0_7 := Lib.hid (g0_6.out.step (w' := w7) (fun k h1 h2 => hb.block k (by omega)))
  clear g0_6
  have y1_7 := Lib.hid (y1_6.out.step (w' := w7) (fun k h1 h2 => hb.block k (by omega)))
  clear y1_6
  clear hb
  go_wp2_with fail
  refine (markS_v w7 (1) x1_7.out (HN1.out) (by omega) (by omega)).mono ?_
  rintro e w8 ⟨rfl, ho, hb⟩
  have z8 : w7.heap.size ≤ w8.heap.size := hb.size
  have B8 : Below w.heap.size w w8 := B7.trans (hb.below (by omega) (by omega))
  have p1_8 := Lib.hid (p1_7.out.step (w' := w8) (fun k h1 h2 => hb.block k (by omega) (by first | exact Or.inl (by omega) | exact Or.inr (by omega))))
  clear p1_7
  have w0_8 := Lib.hid (w0_7.out.step (w' := w8) (fun k h1 h2 => hb.block k (by omega) (by first | exact Or.inl (by omega) | exact Or.inr (by omega))))
  clear w0_7
  have g0_8 := Lib.hid (g0_7.out.step (w' := w8) (fun k h1 h2 => hb.block k (by omega) (by first | exact Or.inl (by omega) | exact Or.inr (by omega))))
  clear g0_7
  have y1_8 := Lib.hid (y1_7.out.step (w' := w8) (fun k h1 h2 => hb.block k (by omega) (by first | exact Or.inl (by omega) | exact Or.inr (by omega))))
  clear y1_7
  clear hb
  have x1_8 := Lib.hid ho
  clear ho x1_7
  go_wp2_with fail
  refine (eqS_v w8 g0_8.out.own.rd w0_8.out.own.rd (HL.out) (by have := HL.out; omega)).mono ?_
  rintro e w9 ⟨rfl, hb⟩
  have z9 : w8.heap.size ≤ w9.heap.size := hb.size
  have B9 : Below w.heap.size w w9 := B8.trans (hb.mono (by omega))
  have p1_9 := Lib.hid (p1_8.out.step (w' := w9) (fun k h1 h2 => hb.block k (by omega)))
  clear p1_8
  have w0_9 := Lib.hid (w0_8.out.step (w' := w9) (fun k h1 h2 => hb.block k (by omega)))
  clear w0_8
  have x1_9 := Lib.hid (x1_8.out.step (w' := w9) (fun k h1 h2 => hb.block k (by omega)))
  clear x1_8
  have g0_9 := Lib.hid (g0_8.out.step (w' := w9) (fun k h1 h2 => hb.block k (by omega)))
  clear g0_8
  have y1_9 := Lib.hid (y1_8.out.step (w' := w9) (fun k h1 h2 => hb.block k (by omega)))
  clear y1_8
  clear hb
  go_wp2_with fail
  refine (markS_v w9 (1) g0_9.out (HL.out) (by omega) (by omega)).mono ?_
  rintro e w10 ⟨rfl, ho, hb⟩
  have z10 : w9.heap.size ≤ w10.heap.size := hb.size
  have B10 : Below w.heap.size w w10 := B9.trans (hb.below (by omega) (by omega))
  have p1_10 := Lib.hid (p1_9.out.step (w' := w10) (fun k h1 h2 => hb.block k (by omega) (by first | exact Or.inl (by omega) | exact Or.inr (by omega))))
  clear p1_9
  have w0_10 := Lib.hid (w0_9.out.step (w' := w10) (fun k h1 h2 => hb.block k (by omega) (by first | exact Or.inl (by omega) | exact Or.inr (by omega))))
  clear w0_9
  have x1_10 := Lib.hid (x1_9.out.step (w' := w10) (fun k h1 h2 => hb.block k (by omega) (by first | exact Or.inl (by omega) | exact Or.inr (by omega))))
  clear x1_9
  have y1_10 := Lib.hid (y1_9.out.step (w' := w10) (fun k h1 h2 => hb.block k (by omega) (by first | exact Or.inl (by omega) | exact Or.inr (by omega))))
  clear y1_9
  clear hb
  have g0_10 := Lib.hid ho
  clear ho g0_9
  go_wp2_with fail
  refine (heldS_v w10 (1) g0_10.out.own.rd (by omega) (by omega)).mono ?_
  rintro e w11 ⟨rfl, hb⟩
  have z11 : w10.heap.size ≤ w11.heap.size := hb.size
  have B11 : Below w.heap.size w w11 := B10.trans (hb.mono (by omega))
  have p1_11 := Lib.hid (p1_10.out.step (w' := w11) (fun k h1 h2 => hb.block k (by omega)))
  clear p1_10
  have w0_11 := Lib.hid (w0_10.out.step (w' := w11) (fun k h1 h2 => hb.block k (by omega)))
  clear w0_10
  have x1_11 := Lib.hid (x1_10.out.step (w' := w11) (fun k h1 h2 => hb.block k (by omega)))
  clear x1_10
  have g0_11 := Lib.hid (g0_10.out.step (w' := w11) (fun k h1 h2 => hb.block k (by omega)))
  clear g0_10
  have y1_11 := Lib.hid (y1_10.out.step (w' := w11) (fun k h1 h2 => hb.block k (by omega)))
  clear y1_10
  clear hb
  go_wp2_with fail
  refine (toS w11 A1 n1 c1 xs1 ((HR1.out).below B11) (HN1.out) (by omega)).mono ?_
  rintro e w12 ⟨⟨z1A, rfl, ho⟩, hb⟩
  have z12 : w11.heap.size ≤ w12.heap.size := hb.size
  have B12 : Below w.heap.size w w12 := B11.trans (hb.mono (by omega))
  have p1_12 := Lib.hid (p1_11.out.step (w' := w12) (fun k h1 h2 => hb.block k (by omega)))
  clear p1_11
  have w0_12 := Lib.hid (w0_11.out.step (w' := w12) (fun k h1 h2 => hb.block k (by omega)))
  clear w0_11
  have x1_12 := Lib.hid (x1_11.out.step (w' := w12) (fun k h1 h2 => hb.block k (by omega)))
  clear x1_11
  have g0_12 := Lib.hid (g0_11.out.step (w' := w12) (fun k h1 h2 => hb.block k (by omega)))
  clear g0_11
  have y1_12 := Lib.hid (y1_11.out.step (w' := w12) (fun k h1 h2 => hb.block k (by omega)))
  clear y1_11
  clear hb
  have z1_12 := Lib.hid ho.in_
  clear ho
  go_wp2_with fail
  refine (implMultipliersOf_c w12 x0 hb0 z1A n1 n1 xs1 z1_12.out.own.rd (HN1.out) hw1 (by omega) z1_12.out.own.nil_cap).mono ?_
  rintro e w13 ⟨⟨h0A, h0n, h0c, rfl, h0hn, ho⟩, hb⟩
  obtain rfl : w0n = h0n := HL.out.symm.trans h0hn
  clear h0hn
  have z13 : w12.heap.size ≤ w13.heap.size := hb.size
  have B13 : Below w.heap.size w w13 := B12.trans (hb.mono (by omega))
  have p1_13 := Lib.hid (p1_12.out.step (w' := w13) (fun k h1 h2 => hb.block k (by omega)))
  clear p1_12
  have w0_13 := Lib.hid (w0_12.out.step (w' := w13) (fun k h1 h2 => hb.block k (by omega)))
  clear w0_12
  have x1_13 := Lib.hid (x1_12.out.step (w' := w13) (fun k h1 h2 => hb.block k (by omega)))
  clear x1_12
  have g0_13 := Lib.hid (g0_12.out.step (w' := w13) (fun k h1 h2 => hb.block k (by omega)))
  clear g0_12
  have y1_13 := Lib.hid (y1_12.out.step (w' := w13) (fun k h1 h2 => hb.block k (by omega)))
  clear y1_12
  have z1_13 := Lib.hid (z1_12.out.step (w' := w13) (fun k h1 h2 => hb.block k (by omega)))
  clear z1_12
  clear hb
  have h0_13 := Lib.hid ho.in_
  clear ho
  go_wp2_with fail
  refine (eqS_v w13 h0_13.out.own.rd w0_13.out.own.rd (HL.out) (by have := HL.out; omega)).mono ?_
  rintro e w14 ⟨rfl, hb⟩
  have z14 : w13.heap.size ≤ w14.heap.size := hb.size
  have B14 : Below w.heap.size w w14 := B13.trans (hb.mono (by omega))
  have p1_14 := Lib.hid (p1_13.out.step (w' := w14) (fun k h1 h2 => hb.block k (by omega)))
  clear p1_13
  have w0_14 := Lib.hid (w0_13.out.step (w' := w14) (fun k h1 h2 => hb.block k (by omega)))
  clear w0_13
  have x1_14 := Lib.hid (x1_13.out.step (w' := w14) (fun k h1 h2 => hb.block k (by omega)))
  clear x1_13
  have g0_14 := Lib.hid (g0_13.out.step (w' := w14) (fun k h1 h2 => hb.block k (by omega)))
  clear g0_13
  have y1_14 := Lib.hid (y1_13.out.step (w' := w14) (fun k h1 h2 => hb.block k (by omega)))
  clear y1_13
  have z1_14 := Lib.hid (z1_13.out.step (w' := w14) (fun k h1 h2 => hb.block k (by omega)))
  clear z1_13
  have h0_14 := Lib.hid (h0_13.out.step (w' := w14) (fun k h1 h2 => hb.block k (by omega)))
  clear h0_13
  clear hb
  go_wp2_with fail
  refine (heldS_v w14 (1) g0_14.out.own.rd (by omega) (by omega)).mono ?_
  rintro e w15 ⟨rfl, hb⟩
  have z15 : w14.heap.size ≤ w15.heap.size := hb.size
  have B15 : Below w.heap.size w w15 := B14.trans (hb.mono (by omega))
  have p1_15 := Lib.hid (p1_14.out.step (w' := w15) (fun k h1 h2 => hb.block k (by omega)))
  clear p1_14
  have w0_15 := Lib.hid (w0_14.out.step (w' := w15) (fun k h1 h2 => hb.block k (by omega)))
  clear w0_14
  have x1_15 := Lib.hid (x1_14.out.step (w' := w15) (fun k h1 h2 => hb.block k (by omega)))
  clear x1_14
  have g0_15 := Lib.hid (g0_14.out.step (w' := w15) (fun k h1 h2 => hb.block k (by omega)))
  clear g0_14
  have y1_15 := Lib.hid (y1_14.out.step (w' := w15) (fun k h1 h2 => hb.block k (by omega)))
  clear y1_14
  have z1_15 := Lib.hid (z1_14.out.step (w' := w15) (fun k h1 h2 => hb.block k (by omega)))
  clear z1_14
  have h0_15 := Lib.hid (h0_14.out.step (w' := w15) (fun k h1 h2 => hb.block k (by omega)))
  clear h0_14
  clear hb
  go_wp2
  go_ret
  exact ⟨rfl, B15⟩

theorem walk (w : World) (x0 : Int) (hb0 : -9223372036854775808 ≤ x0 ∧ x0 ≤ 9223372036854775807) (A1 : Option Addr) (n1 c1 : Nat) (xs1 : List Int) (hr1 : RdI w A1 c1 xs1) (hn1 : xs1.length = n1) (hw1 : WfL xs1) :
    Calls Try.prog 12 #[.int .i64 x0, .slice A1 n1 c1] w fun e w' => e = .returned (.bool true) ∧ Below w.heap.size w w' := by
  rcases Int.lt_or_le 1048576 ((n1 : Int)) with h1 | h1
  · exact walkOut1 w x0 hb0 A1 n1 c1 xs1 hr1 hn1 hw1  h1
  exact walkIn w x0 hb0 A1 n1 c1 xs1 hr1 hn1 hw1 h1

set_option maxRecDepth 100000 in
theorem lifted (os : Os) (started : os.Started) (H : Type) (enc : TypeId × Value → H) :
    ReturnsInHanded {} Try.checked os 12 .any (Rows.fnExactMultipliersOfSpec.pre6 enc Try.prog Try.f12 Rows.fnExactMultipliersOfRow.domain false) (Rows.fnExactMultipliersOfSpec.post enc Try.prog Try.f12 false true false false) := by
  refine returnsInHanded_of_change (C := Try.checked) own started (by kernel_rfl) Try.func12
    (ChangeSpec.witness6 (enc := enc) (C := Try.checked) false ⟨#[], #[.int .i64 0, .slice none 0 0], []⟩ 8 (by kernel_rfl) (by kernel_rfl) (by kernel_rfl) (by kernel_rfl)) ?_
  intro W base args ds gs before hval0 hW hcnd _
  have hval : ∀ (j : Nat) t v, Try.f12.params[j]? = some t → args[j]? = some v → Value.okWide Try.prog W .any base t v := hval0
  have hW' := hW
  obtain ⟨p, q, hA0, hV, rfl, hfz, hnd⟩ := hW
  have hA : DataW.TrodAll enc Try.prog W 0 (fun _ => true) true Try.f12.params.toList args.toList ds p := hA0
  rw [Try.params12] at hA hval
  obtain ⟨v0, vs0, d0, ds0, p0, q0, hargs, rfl, rfl, h0, r0⟩ := trodAll_cons hA
  obtain ⟨v1, vs1, d1, ds1, p1, q1, rfl, rfl, rfl, h1, r1⟩ := trodAll_cons r0
  obtain ⟨rfl, rfl, rfl⟩ := trodAll_nil r1
  obtain rfl : args = #[v0, v1] := by cases args; simp_all
  obtain ⟨rfl, rfl⟩ := trodVars_none hV
  have k0 := h0
  have lt0 : ∀ x ∈ p0, x.block < W.heap.size := by obtain ⟨m, hm⟩ := k0; exact DataW.trod_lt m _ _ _ hm
  obtain ⟨x0, rfl, e0, _, hwf0⟩ := open_int Try.underlying2 (hval 0 2 v0 rfl rfl) h0
  have hb0 := wf_b64 hwf0
  obtain ⟨A1, n1, c1, rfl⟩ := okWide_slice Try.underlying35 (hval 1 35 v1 rfl rfl)
  have k1 := h1
  have lt1 : ∀ x ∈ p1, x.block < W.heap.size := by obtain ⟨m, hm⟩ := k1; exact DataW.trod_lt m _ _ _ hm
  obtain ⟨xs1, hr1, hn1, hw1⟩ := open_S h1
  clear hA0 hval0
  refine (walk W x0 hb0 A1 n1 c1 xs1 hr1 hn1 hw1).mono fun e W' ⟨he, bel⟩ => ?_
  subst he
  exact ⟨_, rfl, _, _, _, [], _, [], hW', trodAll_mk1 (shut_bool Try.underlying4 _), (trodAll_cons_mk (Below.trod laidOut (by kernel_rfl) (of_decide_eq_true (by kernel_rfl)) k0 bel lt0) (trodAll_cons_mk (Below.trod laidOut (by kernel_rfl) (of_decide_eq_true (by kernel_rfl)) k1 bel lt1) trodAll_mk0)), rfl, bel.frame _, fun h => by cases h⟩

theorem over : Rows.fnExactMultipliersOfRow.holds Try.pinned (OpenSpec.ofChange Rows.fnExactMultipliersOfSpec) :=
  OpenClaim.holds_of_wide 12 Try.f12 rfl rfl rfl rfl rfl rfl rfl ⟨rfl, rfl, rfl, rfl, rfl⟩ rfl rfl rfl rfl rfl (by kernel_rfl) Try.func12 (by kernel_rfl)
    (of_decide_eq_true (by kernel_rfl)) (by unfold Func.isWrapper; first | (rw [if_pos (by decide +kernel)]; kernel_rfl) | (rw [if_neg (by decide +kernel)]; exact ⟨rfl, rfl⟩))
    (fun os started H enc _ => lifted os started H enc)

/-- The statement. -/
theorem proved : Rows.FnExactMultipliersOfSaid := over
#print axioms proved
end Go.Proofs.Ytpgmjfgjlddhgaa.lawMultipliersOf
