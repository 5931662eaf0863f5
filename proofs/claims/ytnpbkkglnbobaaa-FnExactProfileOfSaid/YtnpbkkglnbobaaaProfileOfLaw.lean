/-
  The program's ProfileOf returns what the reference's returns: the statement FnExactProfileOfSaid. Conditions: none.
-/
import Derived.Test.YtnpbkkglnbobaaaRows
import Derived.Test.YtnpbkkglnbobaaaProfI
import Derived.Test.YtnpbkkglnbobaaaLawFrame
namespace Go.Proofs.Ytnpbkkglnbobaaa.lawProfileOf
open Go.ChangeShapes Go.WideShapes Go.ChangeAt Go.RowKit Go.Deep
set_option linter.unusedVariables false
set_option linter.unusedSimpArgs false

theorem own : ownKnob Try.prog.godebug = none := by kernel_rfl
theorem laidOut : laidOutB Try.prog = true := by kernel_rfl

set_option maxHeartbeats 400000 in
theorem walkOut0 (w : World) (A0 : Option Addr) (n0 c0 : Nat) (R0 : Spine) (xs0 : List (List Int)) (hr0 : RdM w A0 c0 R0 xs0) (hn0 : xs0.length = n0) (hw0 : WfM xs0) (hz : 1048576 < ((n0 : Int) + (tot xs0 : Nat))) :
    Calls Try.prog 4 #[.slice A0 n0 c0] w fun e w' => e = .returned (.bool true) ∧ Below w.heap.size w w' := by
  have HR0 := Lib.hid hr0
  have HN0 := Lib.hid hn0
  have hm0 : n0 ≤ 9223372036854775807 := by have h1 := hr0.le; have h2 := hr0.cap; unfold maxLen at h2; omega
  clear hr0 hn0
  go_enter Try.func4, Try.ntmps4
  go_wp2_with fail
  refine (szSS_out _ A0 n0 c0 xs0 (1048576) ((HN0.out) ▸ (HR0.out).atL) (HN0.out) (by omega) (by omega) (by omega) (by omega)).mono ?_
  rintro e w' ⟨rfl, rfl⟩
  go_wp2
  go_ret
  exact ⟨rfl, Below.refl _ _⟩

set_option maxHeartbeats 4000000 in
set_option maxRecDepth 100000 in
theorem walkIn (w : World) (A0 : Option Addr) (n0 c0 : Nat) (R0 : Spine) (xs0 : List (List Int)) (hr0 : RdM w A0 c0 R0 xs0) (hn0 : xs0.length = n0) (hw0 : WfM xs0) (hz0 : ((n0 : Int) + (tot xs0 : Nat)) ≤ 1048576) :
    Calls Try.prog 4 #[.slice A0 n0 c0] w fun e w' => e = .returned (.bool true) ∧ Below w.heap.size w w' := by
  have hsmall : (pfL xs0).length ≤ 1048576 := ProfileOf_small xs0
  have HT0 : tot xs0 ≤ 1048576 := by omega
  have HR0 := Lib.hid hr0
  have HN0 := Lib.hid hn0
  have hm0 : n0 ≤ 9223372036854775807 := by have h1 := hr0.le; have h2 := hr0.cap; unfold maxLen at h2; omega
  clear hr0 hn0
  go_enter Try.func4, Try.ntmps4
  go_wp2_with fail
  refine (szSS_in _ A0 n0 c0 xs0 (1048576) ((HN0.out) ▸ (HR0.out).atL) (HN0.out) (by omega) (by omega)).mono ?_
  rintro e w' ⟨rfl, rfl⟩
  go_wp2_with fail
  refine (toSS w A0 n0 c0 R0 xs0 ((HR0.out).below (Below.refl _ _)) (HN0.out) (by omega) (fun k hk => by have := row_small HT0 k (by rw [HN0.out]; exact hk); omega)).mono ?_
  rintro e w1 ⟨⟨p0A, p0R, rfl, ho⟩, hb⟩
  have z1 : w.heap.size ≤ w1.heap.size := hb.size
  have B1 : Below w.heap.size w w1 := (hb.mono (by omega))
  clear hb
  have p0_1 := Lib.hid ho.in_
  clear ho
  go_wp2_with fail
  refine (specProfileOf_c w1 p0A n0 n0 p0R xs0 p0_1.out.own.rd (HN0.out) hw0 (by omega)).mono ?_
  rintro e w2 ⟨⟨w0A, w0n, w0c, rfl, w0hn, ho⟩, hb⟩
  have HL := Lib.hid w0hn
  have hsm : w0n ≤ 1048576 := by have := hsmall; have h2 := HL.out; omega
  clear w0hn
  have z2 : w1.heap.size ≤ w2.heap.size := hb.size
  have B2 : Below w.heap.size w w2 := B1.trans (hb.mono (by omega))
  have p0_2 := Lib.hid (p0_1.out.step (w' := w2) (fun k h1 h2 => hb.block k (by omega)))
  clear p0_1
  clear hb
  have w0_2 := Lib.hid ho.in_
  clear ho
  go_wp2_with fail
  refine (toSS w2 A0 n0 c0 R0 xs0 ((HR0.out).below B2) (HN0.out) (by omega) (fun k hk => by have := row_small HT0 k (by rw [HN0.out]; exact hk); omega)).mono ?_
  rintro e w3 ⟨⟨x0A, x0R, rfl, ho⟩, hb⟩
  have z3 : w2.heap.size ≤ w3.heap.size := hb.size
  have B3 : Below w.heap.size w w3 := B2.trans (hb.mono (by omega))
  have p0_3 := Lib.hid (p0_2.out.step (w' := w3) (fun k h1 h2 => hb.block k (by omega)))
  clear p0_2
  have w0_3 := Lib.hid (w0_2.out.step (w' := w3) (fun k h1 h2 => hb.block k (by omega)))
  clear w0_2
  clear hb
  have x0_3 := Lib.hid ho.in_
  clear ho
  go_wp2_with fail
  refine (implProfileOf_c w3 x0A n0 n0 x0R xs0 x0_3.out.own.rd (HN0.out) hw0 (by omega)).mono ?_
  rintro e w4 ⟨⟨g0A, g0n, g0c, rfl, g0hn, ho⟩, hb⟩
  obtain rfl : w0n = g0n := HL.out.symm.trans g0hn
  clear g0hn
  have z4 : w3.heap.size ≤ w4.heap.size := hb.size
  have B4 : Below w.heap.size w w4 := B3.trans (hb.mono (by omega))
  have p0_4 := Lib.hid (p0_3.out.step (w' := w4) (fun k h1 h2 => hb.block k (by omega)))
  clear p0_3
  have w0_4 := Lib.hid (w0_3.out.step (w' := w4) (fun k h1 h2 => hb.block k (by omega)))
  clear w0_3
  have x0_4 := Lib.hid (x0_3.out.step (w' := w4) (fun k h1 h2 => hb.block k (by omega)))
  clear x0_3
  clear hb
  have g0_4 := Lib.hid ho.in_
  clear ho
  go_wp2_with fail
  refine (eqS_v w4 g0_4.out.own.rd w0_4.out.own.rd (HL.out) (by have := HL.out; omega)).mono ?_
  rintro e w5 ⟨rfl, hb⟩
  have z5 : w4.heap.size ≤ w5.heap.size := hb.size
  have B5 : Below w.heap.size w w5 := B4.trans (hb.mono (by omega))
  have p0_5 := Lib.hid (p0_4.out.step (w' := w5) (fun k h1 h2 => hb.block k (by omega)))
  clear p0_4
  have w0_5 := Lib.hid (w0_4.out.step (w' := w5) (fun k h1 h2 => hb.block k (by omega)))
  clear w0_4
  have x0_5 := Lib.hid (x0_4.out.step (w' := w5) (fun k h1 h2 => hb.block k (by omega)))
  clear x0_4
  have g0_5 := Lib.hid (g0_4.out.step (w' := w5) (fun k h1 h2 => hb.block k (by omega)))
  clear g0_4
  clear hb
  go_wp2_with fail
  refine (toSS w5 A0 n0 c0 R0 xs0 ((HR0.out).below B5) (HN0.out) (by omega) (fun k hk => by have := row_small HT0 k (by rw [HN0.out]; exact hk); omega)).mono ?_
  rintro e w6 ⟨⟨y0A, y0R, rfl, ho⟩, hb⟩
  have z6 : w5.heap.size ≤ w6.heap.size := hb.size
  have B6 : Below w.heap.size w w6 := B5.trans (hb.mono (by omega))
  have p0_6 := Lib.hid (p0_5.out.step (w' := w6) (fun k h1 h2 => hb.block k (by omega)))
  clear p0_5
  have w0_6 := Lib.hid (w0_5.out.step (w' := w6) (fun k h1 h2 => hb.block k (by omega)))
  clear w0_5
  have x0_6 := Lib.hid (x0_5.out.step (w' := w6) (fun k h1 h2 => hb.block k (by omega)))
  clear x0_5
  have g0_6 := Lib.hid (g0_5.out.step (w' := w6) (fun k h1 h2 => hb.block k (by omega)))
  clear g0_5
  clear hb
  have y0_6 := Lib.hid ho.in_
  clear ho
  go_wp2_with fail
  refine (eqSS_v w6 x0_6.out.own.rd y0_6.out.own.rd (HN0.out) (by have := HN0.out; omega) (fun k hk => by have := row_small HT0 k hk; omega)).mono ?_
  rintro e w7 ⟨rfl, hb⟩
  have z7 : w6.heap.size ≤ w7.heap.size := hb.size
  have B7 : Below w.heap.size w w7 := B6.trans (hb.mono (by omega))
  have p0_7 := Lib.hid (p0_6.out.step (w' := w7) (fun k h1 h2 => hb.block k (by omega)))
  clear p0_6
  have w0_7 := Lib.hid (w0_6.out.step (w' := w7) (fun k h1 h2 => hb.block k (by omega)))
  clear w0_6
  have x0_7 := Lib.hid (x0_6.out.step (w' := w7) (fun k h1 h2 => hb.block k (by omega)))
  clear x0_6
  have g0_7 := Lib.hid (g0_6.out.step (w' := w7) (fun k h1 h2 => hb.block k (by omega)))
  clear g0_6
  have y0_7 := Lib.hid (y0_6.out.step (w' := w7) (fun k h1 h2 => hb.block k (by omega)))
  clear y0_6
  clear hb
  go_wp2_with fail
  refine (markSS_v w7 (1) x0_7.out (HN0.out) (by omega) (by omega)).mono ?_
  rintro e w8 ⟨rfl, ⟨x0Y, ho, x0hM⟩, hb⟩
  have z8 : w7.heap.size ≤ w8.heap.size := hb.size
  have B8 : Below w.heap.size w w8 := B7.trans (hb.below (by omega) (by omega))
  have p0_8 := Lib.hid (p0_7.out.step (w' := w8) (fun k h1 h2 => hb.block k (by omega) (by first | exact Or.inl (by omega) | exact Or.inr (by omega))))
  clear p0_7
  have w0_8 := Lib.hid (w0_7.out.step (w' := w8) (fun k h1 h2 => hb.block k (by omega) (by first | exact Or.inl (by omega) | exact Or.inr (by omega))))
  clear w0_7
  have g0_8 := Lib.hid (g0_7.out.step (w' := w8) (fun k h1 h2 => hb.block k (by omega) (by first | exact Or.inl (by omega) | exact Or.inr (by omega))))
  clear g0_7
  have y0_8 := Lib.hid (y0_7.out.step (w' := w8) (fun k h1 h2 => hb.block k (by omega) (by first | exact Or.inl (by omega) | exact Or.inr (by omega))))
  clear y0_7
  clear hb
  have x0_8 := Lib.hid ho
  clear ho x0_7
  have x0HM := Lib.hid x0hM
  clear x0hM
  go_wp2_with fail
  refine (eqS_v w8 g0_8.out.own.rd w0_8.out.own.rd (HL.out) (by have := HL.out; omega)).mono ?_
  rintro e w9 ⟨rfl, hb⟩
  have z9 : w8.heap.size ≤ w9.heap.size := hb.size
  have B9 : Below w.heap.size w w9 := B8.trans (hb.mono (by omega))
  have p0_9 := Lib.hid (p0_8.out.step (w' := w9) (fun k h1 h2 => hb.block k (by omega)))
  clear p0_8
  have w0_9 := Lib.hid (w0_8.out.step (w' := w9) (fun k h1 h2 => hb.block k (by omega)))
  clear w0_8
  have x0_9 := Lib.hid (x0_8.out.step (w' := w9) (fun k h1 h2 => hb.block k (by omega)))
  clear x0_8
  have g0_9 := Lib.hid (g0_8.out.step (w' := w9) (fun k h1 h2 => hb.block k (by omega)))
  clear g0_8
  have y0_9 := Lib.hid (y0_8.out.step (w' := w9) (fun k h1 h2 => hb.block k (by omega)))
  clear y0_8
  clear hb
  go_wp2_with fail
  refine (markS_v w9 (1) g0_9.out (HL.out) (by omega) (by omega)).mono ?_
  rintro e w10 ⟨rfl, ho, hb⟩
  have z10 : w9.heap.size ≤ w10.heap.size := hb.size
  have B10 : Below w.heap.size w w10 := B9.trans (hb.below (by omega) (by omega))
  have p0_10 := Lib.hid (p0_9.out.step (w' := w10) (fun k h1 h2 => hb.block k (by omega) (by first | exact Or.inl (by omega) | exact Or.inr (by omega))))
  clear p0_9
  have w0_10 := Lib.hid (w0_9.out.step (w' := w10) (fun k h1 h2 => hb.block k (by omega) (by first | exact Or.inl (by omega) | exact Or.inr (by omega))))
  clear w0_9
  have x0_10 := Lib.hid (x0_9.out.step (w' := w10) (fun k h1 h2 => hb.block k (by omega) (by first | exact Or.inl (by omega) | exact Or.inr (by omega))))
  clear x0_9
  have y0_10 := Lib.hid (y0_9.out.step (w' := w10) (fun k h1 h2 => hb.block k (by omega) (by first | exact Or.inl (by omega) | exact Or.inr (by omega))))
  clear y0_9
  clear hb
  have g0_10 := Lib.hid ho
  clear ho g0_9
  go_wp2_with fail
  refine (heldS_v w10 (1) g0_10.out.own.rd (by omega) (by omega)).mono ?_
  rintro e w11 ⟨rfl, hb⟩
  have z11 : w10.heap.size ≤ w11.heap.size := hb.size
  have B11 : Below w.heap.size w w11 := B10.trans (hb.mono (by omega))
  have p0_11 := Lib.hid (p0_10.out.step (w' := w11) (fun k h1 h2 => hb.block k (by omega)))
  clear p0_10
  have w0_11 := Lib.hid (w0_10.out.step (w' := w11) (fun k h1 h2 => hb.block k (by omega)))
  clear w0_10
  have x0_11 := Lib.hid (x0_10.out.step (w' := w11) (fun k h1 h2 => hb.block k (by omega)))
  clear x0_10
  have g0_11 := Lib.hid (g0_10.out.step (w' := w11) (fun k h1 h2 => hb.block k (by omega)))
  clear g0_10
  have y0_11 := Lib.hid (y0_10.out.step (w' := w11) (fun k h1 h2 => hb.block k (by omega)))
  clear y0_10
  clear hb
  go_wp2_with fail
  refine (toSS w11 A0 n0 c0 R0 xs0 ((HR0.out).below B11) (HN0.out) (by omega) (fun k hk => by have := row_small HT0 k (by rw [HN0.out]; exact hk); omega)).mono ?_
  rintro e w12 ⟨⟨z0A, z0R, rfl, ho⟩, hb⟩
  have z12 : w11.heap.size ≤ w12.heap.size := hb.size
  have B12 : Below w.heap.size w w12 := B11.trans (hb.mono (by omega))
  have p0_12 := Lib.hid (p0_11.out.step (w' := w12) (fun k h1 h2 => hb.block k (by omega)))
  clear p0_11
  have w0_12 := Lib.hid (w0_11.out.step (w' := w12) (fun k h1 h2 => hb.block k (by omega)))
  clear w0_11
  have x0_12 := Lib.hid (x0_11.out.step (w' := w12) (fun k h1 h2 => hb.block k (by omega)))
  clear x0_11
  have g0_12 := Lib.hid (g0_11.out.step (w' := w12) (fun k h1 h2 => hb.block k (by omega)))
  clear g0_11
  have y0_12 := Lib.hid (y0_11.out.step (w' := w12) (fun k h1 h2 => hb.block k (by omega)))
  clear y0_11
  clear hb
  have z0_12 := Lib.hid ho.in_
  clear ho
  go_wp2_with fail
  refine (implProfileOf_c w12 z0A n0 n0 z0R xs0 z0_12.out.own.rd (HN0.out) hw0 (by omega)).mono ?_
  rintro e w13 ⟨⟨h0A, h0n, h0c, rfl, h0hn, ho⟩, hb⟩
  obtain rfl : w0n = h0n := HL.out.symm.trans h0hn
  clear h0hn
  have z13 : w12.heap.size ≤ w13.heap.size := hb.size
  have B13 : Below w.heap.size w w13 := B12.trans (hb.mono (by omega))
  have p0_13 := Lib.hid (p0_12.out.step (w' := w13) (fun k h1 h2 => hb.block k (by omega)))
  clear p0_12
  have w0_13 := Lib.hid (w0_12.out.step (w' := w13) (fun k h1 h2 => hb.block k (by omega)))
  clear w0_12
  have x0_13 := Lib.hid (x0_12.out.step (w' := w13) (fun k h1 h2 => hb.block k (by omega)))
  clear x0_12
  have g0_13 := Lib.hid (g0_12.out.step (w' := w13) (fun k h1 h2 => hb.block k (by omega)))
  clear g0_12
  have y0_13 := Lib.hid (y0_12.out.step (w' := w13) (fun k h1 h2 => hb.block k (by omega)))
  clear y0_12
  have z0_13 := Lib.hid (z0_12.out.step (w' := w13) (fun k h1 h2 => hb.block k (by omega)))
  clear z0_12
  clear hb
  have h0_13 := Lib.hid ho.in_
  clear ho
  go_wp2_with fail
  refine (eqS_v w13 h0_13.out.own.rd w0_13.out.own.rd (HL.out) (by have := HL.out; omega)).mono ?_
  rintro e w14 ⟨rfl, hb⟩
  have z14 : w13.heap.size ≤ w14.heap.size := hb.size
  have B14 : Below w.heap.size w w14 := B13.trans (hb.mono (by omega))
  have p0_14 := Lib.hid (p0_13.out.step (w' := w14) (fun k h1 h2 => hb.block k (by omega)))
  clear p0_13
  have w0_14 := Lib.hid (w0_13.out.step (w' := w14) (fun k h1 h2 => hb.block k (by omega)))
  clear w0_13
  have x0_14 := Lib.hid (x0_13.out.step (w' := w14) (fun k h1 h2 => hb.block k (by omega)))
  clear x0_13
  have g0_14 := Lib.hid (g0_13.out.step (w' := w14) (fun k h1 h2 => hb.block k (by omega)))
  clear g0_13
  have y0_14 := Lib.hid (y0_13.out.step (w' := w14) (fun k h1 h2 => hb.block k (by omega)))
  clear y0_13
  have z0_14 := Lib.hid (z0_13.out.step (w' := w14) (fun k h1 h2 => hb.block k (by omega)))
  clear z0_13
  have h0_14 := Lib.hid (h0_13.out.step (w' := w14) (fun k h1 h2 => hb.block k (by omega)))
  clear h0_13
  clear hb
  go_wp2_with fail
  refine (heldS_v w14 (1) g0_14.out.own.rd (by omega) (by omega)).mono ?_
  rintro e w15 ⟨rfl, hb⟩
  have z15 : w14.heap.size ≤ w15.heap.size := hb.size
  have B15 : Below w.heap.size w w15 := B14.trans (hb.mono (by omega))
  have p0_15 := Lib.hid (p0_14.out.step (w' := w15) (fun k h1 h2 => hb.block k (by omega)))
  clear p0_14
  have w0_15 := Lib.hid (w0_14.out.step (w' := w15) (fun k h1 h2 => hb.block k (by omega)))
  clear w0_14
  have x0_15 := Lib.hid (x0_14.out.step (w' := w15) (fun k h1 h2 => hb.block k (by omega)))
  clear x0_14
  have g0_15 := Lib.hid (g0_14.out.step (w' := w15) (fun k h1 h2 => hb.block k (by omega)))
  clear g0_14
  have y0_15 := Lib.hid (y0_14.out.step (w' := w15) (fun k h1 h2 => hb.block k (by omega)))
  clear y0_14
  have z0_15 := Lib.hid (z0_14.out.step (w' := w15) (fun k h1 h2 => hb.block k (by omega)))
  clear z0_14
  have h0_15 := Lib.hid (h0_14.out.step (w' := w15) (fun k h1 h2 => hb.block k (by omega)))
  clear h0_14
  clear hb
  go_wp2
  go_ret
  exact ⟨rfl, B15⟩

theorem walk (w : World) (A0 : Option Addr) (n0 c0 : Nat) (R0 : Spine) (xs0 : List (List Int)) (hr0 : RdM w A0 c0 R0 xs0) (hn0 : xs0.length = n0) (hw0 : WfM xs0) :
    Calls Try.prog 4 #[.slice A0 n0 c0] w fun e w' => e = .returned (.bool true) ∧ Below w.heap.size w w' := by
  rcases Int.lt_or_le 1048576 (((n0 : Int) + (tot xs0 : Nat))) with h0 | h0
  · exact walkOut0 w A0 n0 c0 R0 xs0 hr0 hn0 hw0  h0
  exact walkIn w A0 n0 c0 R0 xs0 hr0 hn0 hw0 h0

set_option maxRecDepth 100000 in
theorem lifted (os : Os) (started : os.Started) (H : Type) (enc : TypeId × Value → H) :
    ReturnsInHanded {} Try.checked os 4 .any (Rows.fnExactProfileOfSpec.pre6 enc Try.prog Try.f4 Rows.fnExactProfileOfRow.domain false) (Rows.fnExactProfileOfSpec.post enc Try.prog Try.f4 false true false false) := by
  refine returnsInHanded_of_change (C := Try.checked) own started (by kernel_rfl) Try.func4
    (ChangeSpec.witness6 (enc := enc) (C := Try.checked) false ⟨#[], #[.slice none 0 0], []⟩ 8 (by kernel_rfl) (by kernel_rfl) (by kernel_rfl) (by kernel_rfl)) ?_
  intro W base args ds gs before hval0 hW hcnd _
  have hval : ∀ (j : Nat) t v, Try.f4.params[j]? = some t → args[j]? = some v → Value.okWide Try.prog W .any base t v := hval0
  have hW' := hW
  obtain ⟨p, q, hA0, hV, rfl, hfz, hnd⟩ := hW
  have hA : DataW.TrodAll enc Try.prog W 0 (fun _ => true) true Try.f4.params.toList args.toList ds p := hA0
  rw [Try.params4] at hA hval
  obtain ⟨v0, vs0, d0, ds0, p0, q0, hargs, rfl, rfl, h0, r0⟩ := trodAll_cons hA
  obtain ⟨rfl, rfl, rfl⟩ := trodAll_nil r0
  obtain rfl : args = #[v0] := by cases args; simp_all
  obtain ⟨rfl, rfl⟩ := trodVars_none hV
  obtain ⟨A0, n0, c0, rfl⟩ := okWide_slice Try.underlying27 (hval 0 27 v0 rfl rfl)
  have k0 := h0
  have lt0 : ∀ x ∈ p0, x.block < W.heap.size := by obtain ⟨m, hm⟩ := k0; exact DataW.trod_lt m _ _ _ hm
  obtain ⟨R0, xs0, hr0, hn0, hw0⟩ := open_M h0
  clear hA0 hval0
  refine (walk W A0 n0 c0 R0 xs0 hr0 hn0 hw0).mono fun e W' ⟨he, bel⟩ => ?_
  subst he
  exact ⟨_, rfl, _, _, _, [], _, [], hW', trodAll_mk1 (shut_bool Try.underlying4 _), (trodAll_cons_mk (Below.trod laidOut (by kernel_rfl) (of_decide_eq_true (by kernel_rfl)) k0 bel lt0) trodAll_mk0), rfl, bel.frame _, fun h => by cases h⟩

theorem over : Rows.fnExactProfileOfRow.holds Try.pinned (OpenSpec.ofChange Rows.fnExactProfileOfSpec) :=
  OpenClaim.holds_of_wide 4 Try.f4 rfl rfl rfl rfl rfl rfl rfl ⟨rfl, rfl, rfl, rfl, rfl⟩ rfl rfl rfl rfl rfl (by kernel_rfl) Try.func4 (by kernel_rfl)
    (of_decide_eq_true (by kernel_rfl)) (by unfold Func.isWrapper; first | (rw [if_pos (by decide +kernel)]; kernel_rfl) | (rw [if_neg (by decide +kernel)]; exact ⟨rfl, rfl⟩))
    (fun os started H enc _ => lifted os started H enc)

/-- The statement. -/
theorem proved : Rows.FnExactProfileOfSaid := over
#print axioms proved
end Go.Proofs.Ytnpbkkglnbobaaa.lawProfileOf
