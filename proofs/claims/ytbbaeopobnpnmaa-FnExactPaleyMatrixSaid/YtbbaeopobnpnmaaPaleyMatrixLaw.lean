/-
  The program's PaleyMatrix returns what the reference's returns: the statement FnExactPaleyMatrixSaid. Conditions: none.
-/
import Derived.Test.YtbbaeopobnpnmaaRows
import Derived.Test.YtbbaeopobnpnmaaPmI
import Derived.Test.YtbbaeopobnpnmaaPmS
import Derived.Test.YtbbaeopobnpnmaaLawFrame
namespace Go.Proofs.Ytbbaeopobnpnmaa.lawPaleyMatrix
open Go.ChangeShapes Go.WideShapes Go.ChangeAt Go.RowKit Go.Deep
set_option linter.unusedVariables false
set_option linter.unusedSimpArgs false

theorem own : ownKnob Try.prog.godebug = none := by kernel_rfl
theorem laidOut : laidOutB Try.prog = true := by kernel_rfl

set_option maxHeartbeats 4000000 in
set_option maxRecDepth 100000 in
theorem walkIn (w : World) (x0 : Int) (hb0 : -9223372036854775808 ≤ x0 ∧ x0 ≤ 9223372036854775807) :
    Calls Try.prog 3 #[.int .i64 x0] w fun e w' => e = .returned (.bool true) ∧ Below w.heap.size w w' := by
  have hsmall : (pmM x0).length ≤ 1048576 := (PaleyMatrix_small x0).1
  have HS : tot (pmM x0) ≤ 1048576 := (PaleyMatrix_small x0).2
  go_enter Try.func3, Try.ntmps3
  go_wp2_with fail
  refine (specPaleyMatrix_c w x0 hb0).mono ?_
  rintro e w1 ⟨⟨w0A, w0n, w0c, w0R, rfl, w0hn, ho⟩, hb⟩
  have HL := Lib.hid w0hn
  have hsm : w0n ≤ 1048576 := by have := hsmall; have h2 := HL.out; omega
  clear w0hn
  have z1 : w.heap.size ≤ w1.heap.size := hb.size
  have B1 : Below w.heap.size w w1 := (hb.mono (by omega))
  clear hb
  have w0_1 := Lib.hid ho.in_
  clear ho
  go_wp2_with fail
  refine (implPaleyMatrix_c w1 x0 hb0).mono ?_
  rintro e w2 ⟨⟨g0A, g0n, g0c, g0R, rfl, g0hn, ho⟩, hb⟩
  obtain rfl : w0n = g0n := HL.out.symm.trans g0hn
  clear g0hn
  have z2 : w1.heap.size ≤ w2.heap.size := hb.size
  have B2 : Below w.heap.size w w2 := B1.trans (hb.mono (by omega))
  have w0_2 := Lib.hid (w0_1.out.step (w' := w2) (fun k h1 h2 => hb.block k (by omega)))
  clear w0_1
  clear hb
  have g0_2 := Lib.hid ho.in_
  clear ho
  go_wp2_with fail
  refine (eqSS_v w2 g0_2.out.own.rd w0_2.out.own.rd (HL.out) (by have := HL.out; omega) (fun k hk => by have := row_small HS k hk; omega)).mono ?_
  rintro e w3 ⟨rfl, hb⟩
  have z3 : w2.heap.size ≤ w3.heap.size := hb.size
  have B3 : Below w.heap.size w w3 := B2.trans (hb.mono (by omega))
  have w0_3 := Lib.hid (w0_2.out.step (w' := w3) (fun k h1 h2 => hb.block k (by omega)))
  clear w0_2
  have g0_3 := Lib.hid (g0_2.out.step (w' := w3) (fun k h1 h2 => hb.block k (by omega)))
  clear g0_2
  clear hb
  go_wp2_with fail
  refine (markSS_v w3 (1) g0_3.out (HL.out) (by omega) (by omega)).mono ?_
  rintro e w4 ⟨rfl, ⟨g0Y, ho, g0hM⟩, hb⟩
  have z4 : w3.heap.size ≤ w4.heap.size := hb.size
  have B4 : Below w.heap.size w w4 := B3.trans (hb.below (by omega) (by omega))
  have w0_4 := Lib.hid (w0_3.out.step (w' := w4) (fun k h1 h2 => hb.block k (by omega) (by first | exact Or.inl (by omega) | exact Or.inr (by omega))))
  clear w0_3
  clear hb
  have g0_4 := Lib.hid ho
  clear ho g0_3
  have g0HM := Lib.hid g0hM
  clear g0hM
  go_wp2_with fail
  refine (heldSS_v w4 (1) g0_4.out.own.rd (g0HM.out) (HL.out) (by omega) (by omega)).mono ?_
  rintro e w5 ⟨rfl, hb⟩
  have z5 : w4.heap.size ≤ w5.heap.size := hb.size
  have B5 : Below w.heap.size w w5 := B4.trans (hb.mono (by omega))
  have w0_5 := Lib.hid (w0_4.out.step (w' := w5) (fun k h1 h2 => hb.block k (by omega)))
  clear w0_4
  have g0_5 := Lib.hid (g0_4.out.step (w' := w5) (fun k h1 h2 => hb.block k (by omega)))
  clear g0_4
  clear hb
  go_wp2_with fail
  refine (implPaleyMatrix_c w5 x0 hb0).mono ?_
  rintro e w6 ⟨⟨h0A, h0n, h0c, h0R, rfl, h0hn, ho⟩, hb⟩
  obtain rfl : w0n = h0n := HL.out.symm.trans h0hn
  clear h0hn
  have z6 : w5.heap.size ≤ w6.heap.size := hb.size
  have B6 : Below w.heap.size w w6 := B5.trans (hb.mono (by omega))
  have w0_6 := Lib.hid (w0_5.out.step (w' := w6) (fun k h1 h2 => hb.block k (by omega)))
  clear w0_5
  have g0_6 := Lib.hid (g0_5.out.step (w' := w6) (fun k h1 h2 => hb.block k (by omega)))
  clear g0_5
  clear hb
  have h0_6 := Lib.hid ho.in_
  clear ho
  go_wp2_with fail
  refine (eqSS_v w6 h0_6.out.own.rd w0_6.out.own.rd (HL.out) (by have := HL.out; omega) (fun k hk => by have := row_small HS k hk; omega)).mono ?_
  rintro e w7 ⟨rfl, hb⟩
  have z7 : w6.heap.size ≤ w7.heap.size := hb.size
  have B7 : Below w.heap.size w w7 := B6.trans (hb.mono (by omega))
  have w0_7 := Lib.hid (w0_6.out.step (w' := w7) (fun k h1 h2 => hb.block k (by omega)))
  clear w0_6
  have g0_7 := Lib.hid (g0_6.out.step (w' := w7) (fun k h1 h2 => hb.block k (by omega)))
  clear g0_6
  have h0_7 := Lib.hid (h0_6.out.step (w' := w7) (fun k h1 h2 => hb.block k (by omega)))
  clear h0_6
  clear hb
  go_wp2_with fail
  refine (heldSS_v w7 (1) g0_7.out.own.rd (g0HM.out) (HL.out) (by omega) (by omega)).mono ?_
  rintro e w8 ⟨rfl, hb⟩
  have z8 : w7.heap.size ≤ w8.heap.size := hb.size
  have B8 : Below w.heap.size w w8 := B7.trans (hb.mono (by omega))
  have w0_8 := Lib.hid (w0_7.out.step (w' := w8) (fun k h1 h2 => hb.block k (by omega)))
  clear w0_7
  have g0_8 := Lib.hid (g0_7.out.step (w' := w8) (fun k h1 h2 => hb.block k (by omega)))
  clear g0_7
  have h0_8 := Lib.hid (h0_7.out.step (w' := w8) (fun k h1 h2 => hb.block k (by omega)))
  clear h0_7
  clear hb
  go_wp2
  go_ret
  exact ⟨rfl, B8⟩

theorem walk (w : World) (x0 : Int) (hb0 : -9223372036854775808 ≤ x0 ∧ x0 ≤ 9223372036854775807) :
    Calls Try.prog 3 #[.int .i64 x0] w fun e w' => e = .returned (.bool true) ∧ Below w.heap.size w w' := by
  exact walkIn w x0 hb0 

set_option maxRecDepth 100000 in
theorem lifted (os : Os) (started : os.Started) (H : Type) (enc : TypeId × Value → H) :
    ReturnsInHanded {} Try.checked os 3 .any (Rows.fnExactPaleyMatrixSpec.pre6 enc Try.prog Try.f3 Rows.fnExactPaleyMatrixRow.domain false) (Rows.fnExactPaleyMatrixSpec.post enc Try.prog Try.f3 false true false false) := by
  refine returnsInHanded_of_change (C := Try.checked) own started (by kernel_rfl) Try.func3
    (ChangeSpec.witness6 (enc := enc) (C := Try.checked) false ⟨#[], #[.int .i64 0], []⟩ 8 (by kernel_rfl) (by kernel_rfl) (by kernel_rfl) (by kernel_rfl)) ?_
  intro W base args ds gs before hval0 hW hcnd _
  have hval : ∀ (j : Nat) t v, Try.f3.params[j]? = some t → args[j]? = some v → Value.okWide Try.prog W .any base t v := hval0
  have hW' := hW
  obtain ⟨p, q, hA0, hV, rfl, hfz, hnd⟩ := hW
  have hA : DataW.TrodAll enc Try.prog W 0 (fun _ => true) true Try.f3.params.toList args.toList ds p := hA0
  rw [Try.params3] at hA hval
  obtain ⟨v0, vs0, d0, ds0, p0, q0, hargs, rfl, rfl, h0, r0⟩ := trodAll_cons hA
  obtain ⟨rfl, rfl, rfl⟩ := trodAll_nil r0
  obtain rfl : args = #[v0] := by cases args; simp_all
  obtain ⟨rfl, rfl⟩ := trodVars_none hV
  have k0 := h0
  have lt0 : ∀ x ∈ p0, x.block < W.heap.size := by obtain ⟨m, hm⟩ := k0; exact DataW.trod_lt m _ _ _ hm
  obtain ⟨x0, rfl, e0, _, hwf0⟩ := open_int Try.underlying2 (hval 0 2 v0 rfl rfl) h0
  have hb0 := wf_b64 hwf0
  clear hA0 hval0
  refine (walk W x0 hb0).mono fun e W' ⟨he, bel⟩ => ?_
  subst he
  exact ⟨_, rfl, _, _, _, [], _, [], hW', trodAll_mk1 (shut_bool Try.underlying4 _), (trodAll_cons_mk (Below.trod laidOut (by kernel_rfl) (of_decide_eq_true (by kernel_rfl)) k0 bel lt0) trodAll_mk0), rfl, bel.frame _, fun h => by cases h⟩

theorem over : Rows.fnExactPaleyMatrixRow.holds Try.pinned (OpenSpec.ofChange Rows.fnExactPaleyMatrixSpec) :=
  OpenClaim.holds_of_wide 3 Try.f3 rfl rfl rfl rfl rfl rfl rfl ⟨rfl, rfl, rfl, rfl, rfl⟩ rfl rfl rfl rfl rfl (by kernel_rfl) Try.func3 (by kernel_rfl)
    (of_decide_eq_true (by kernel_rfl)) (by unfold Func.isWrapper; first | (rw [if_pos (by decide +kernel)]; kernel_rfl) | (rw [if_neg (by decide +kernel)]; exact ⟨rfl, rfl⟩))
    (fun os started H enc _ => lifted os started H enc)

/-- The statement. -/
theorem proved : Rows.FnExactPaleyMatrixSaid := over
#print axioms proved
end Go.Proofs.Ytbbaeopobnpnmaa.lawPaleyMatrix
