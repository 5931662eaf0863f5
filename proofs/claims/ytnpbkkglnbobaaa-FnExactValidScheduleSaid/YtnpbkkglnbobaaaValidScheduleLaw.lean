/-
  The program's ValidSchedule returns what the reference's returns: the statement FnExactValidScheduleSaid. Conditions: none.
-/
import Derived.Test.YtnpbkkglnbobaaaRows
import Derived.Test.YtnpbkkglnbobaaaSchS
import Derived.Test.YtnpbkkglnbobaaaLawFrame
import Derived.Test.YtnpbkkglnbobaaaTFrame
namespace Go.Proofs.Ytnpbkkglnbobaaa.lawValidSchedule
open Go.ChangeShapes Go.WideShapes Go.ChangeAt Go.RowKit Go.Deep
set_option linter.unusedVariables false
set_option linter.unusedSimpArgs false

theorem own : ownKnob Try.prog.godebug = none := by kernel_rfl
theorem laidOut : laidOutB Try.prog = true := by kernel_rfl

set_option maxHeartbeats 400000 in
theorem walkOut1 (w : World) (x0 : Int) (hb0 : -9223372036854775808 ≤ x0 ∧ x0 ≤ 9223372036854775807) (A1 : Option Addr) (n1 c1 : Nat) (S1 : Spine3) (xs1 : List (List (List Int))) (hr1 : RdL w A1 c1 S1 xs1) (hn1 : xs1.length = n1) (hw1 : WfT xs1) (hz : 1048576 < ((n1 : Int) + (wgt xs1 : Nat))) :
    Calls Try.prog 3 #[.int .i64 x0, .slice A1 n1 c1] w fun e w' => e = .returned (.bool true) ∧ Below w.heap.size w w' := by
  have HR1 := Lib.hid hr1
  have HN1 := Lib.hid hn1
  have hm1 : n1 ≤ 9223372036854775807 := by have h1 := hr1.le; have h2 := hr1.cap; unfold maxLen at h2; omega
  clear hr1 hn1
  go_enter Try.func3, Try.ntmps3
  go_wp2_with fail
  refine (szL_out w A1 n1 c1 S1 xs1 (1048576) (HR1.out) (HN1.out) (by omega) (by omega) (by omega)).mono ?_
  rintro e w' ⟨rfl, rfl⟩
  go_wp2
  go_ret
  exact ⟨rfl, Below.refl _ _⟩

set_option maxHeartbeats 4000000 in
set_option maxRecDepth 100000 in
theorem walkIn (w : World) (x0 : Int) (hb0 : -9223372036854775808 ≤ x0 ∧ x0 ≤ 9223372036854775807) (A1 : Option Addr) (n1 c1 : Nat) (S1 : Spine3) (xs1 : List (List (List Int))) (hr1 : RdL w A1 c1 S1 xs1) (hn1 : xs1.length = n1) (hw1 : WfT xs1) (hz1 : ((n1 : Int) + (wgt xs1 : Nat)) ≤ 1048576) :
    Calls Try.prog 3 #[.int .i64 x0, .slice A1 n1 c1] w fun e w' => e = .returned (.bool true) ∧ Below w.heap.size w w' := by
  have HT1 : wgt xs1 ≤ 1048576 := by omega
  have hc1 := cnt3_le_wgt xs1
  have HR1 := Lib.hid hr1
  have HN1 := Lib.hid hn1
  have hm1 : n1 ≤ 9223372036854775807 := by have h1 := hr1.le; have h2 := hr1.cap; unfold maxLen at h2; omega
  clear hr1 hn1
  go_enter Try.func3, Try.ntmps3
  go_wp2_with fail
  refine (szL_in w A1 n1 c1 S1 xs1 (1048576) (HR1.out) (HN1.out) (by omega) (by omega)).mono ?_
  rintro e w' ⟨rfl, rfl⟩
  go_wp2_with fail
  refine (toL w A1 n1 c1 S1 xs1 ((HR1.out).below (Below.refl _ _)) (HN1.out) (by omega) HT1).mono ?_
  rintro e w1 ⟨⟨p1A, p1S, p1I, rfl, ho⟩, hb⟩
  have z1 : w.heap.size ≤ w1.heap.size := hb.size
  have B1 : Below w.heap.size w w1 := (hb.mono (by omega))
  clear hb
  have p1_1 := Lib.hid ho
  clear ho
  go_wp2_with fail
  refine (specValidSchedule_c w1 x0 hb0 p1A n1 n1 p1S xs1 p1_1.out.rd (HN1.out) hw1 (by omega)).mono ?_
  rintro e w2 ⟨rfl, hb⟩
  have z2 : w1.heap.size ≤ w2.heap.size := hb.size
  have B2 : Below w.heap.size w w2 := B1.trans (hb.mono (by omega))
  have p1_2 := Lib.hid (p1_1.out.step (w' := w2) (fun k h1 h2 => hb.block k (by omega)))
  clear p1_1
  clear hb
  go_wp2_with fail
  refine (toL w2 A1 n1 c1 S1 xs1 ((HR1.out).below B2) (HN1.out) (by omega) HT1).mono ?_
  rintro e w3 ⟨⟨x1A, x1S, x1I, rfl, ho⟩, hb⟩
  have z3 : w2.heap.size ≤ w3.heap.size := hb.size
  have B3 : Below w.heap.size w w3 := B2.trans (hb.mono (by omega))
  have p1_3 := Lib.hid (p1_2.out.step (w' := w3) (fun k h1 h2 => hb.block k (by omega)))
  clear p1_2
  clear hb
  have x1_3 := Lib.hid ho
  clear ho
  go_wp2_with fail
  refine (implValidSchedule_c w3 x0 hb0 x1A n1 n1 x1S xs1 x1_3.out.rd (HN1.out) hw1 (by omega)).mono ?_
  rintro e w4 ⟨rfl, hb⟩
  have z4 : w3.heap.size ≤ w4.heap.size := hb.size
  have B4 : Below w.heap.size w w4 := B3.trans (hb.mono (by omega))
  have p1_4 := Lib.hid (p1_3.out.step (w' := w4) (fun k h1 h2 => hb.block k (by omega)))
  clear p1_3
  have x1_4 := Lib.hid (x1_3.out.step (w' := w4) (fun k h1 h2 => hb.block k (by omega)))
  clear x1_3
  clear hb
  go_wp2_with fail
  refine (toL w4 A1 n1 c1 S1 xs1 ((HR1.out).below B4) (HN1.out) (by omega) HT1).mono ?_
  rintro e w5 ⟨⟨y1A, y1S, y1I, rfl, ho⟩, hb⟩
  have z5 : w4.heap.size ≤ w5.heap.size := hb.size
  have B5 : Below w.heap.size w w5 := B4.trans (hb.mono (by omega))
  have p1_5 := Lib.hid (p1_4.out.step (w' := w5) (fun k h1 h2 => hb.block k (by omega)))
  clear p1_4
  have x1_5 := Lib.hid (x1_4.out.step (w' := w5) (fun k h1 h2 => hb.block k (by omega)))
  clear x1_4
  clear hb
  have y1_5 := Lib.hid ho
  clear ho
  go_wp2_with fail
  refine (eqL_v w5 x1_5.out.rd y1_5.out.rd (HN1.out) (by have := HN1.out; omega) HT1).mono ?_
  rintro e w6 ⟨rfl, hb⟩
  have z6 : w5.heap.size ≤ w6.heap.size := hb.size
  have B6 : Below w.heap.size w w6 := B5.trans (hb.mono (by omega))
  have p1_6 := Lib.hid (p1_5.out.step (w' := w6) (fun k h1 h2 => hb.block k (by omega)))
  clear p1_5
  have x1_6 := Lib.hid (x1_5.out.step (w' := w6) (fun k h1 h2 => hb.block k (by omega)))
  clear x1_5
  have y1_6 := Lib.hid (y1_5.out.step (w' := w6) (fun k h1 h2 => hb.block k (by omega)))
  clear y1_5
  clear hb
  go_wp2
  go_ret
  exact ⟨rfl, B6⟩

theorem walk (w : World) (x0 : Int) (hb0 : -9223372036854775808 ≤ x0 ∧ x0 ≤ 9223372036854775807) (A1 : Option Addr) (n1 c1 : Nat) (S1 : Spine3) (xs1 : List (List (List Int))) (hr1 : RdL w A1 c1 S1 xs1) (hn1 : xs1.length = n1) (hw1 : WfT xs1) :
    Calls Try.prog 3 #[.int .i64 x0, .slice A1 n1 c1] w fun e w' => e = .returned (.bool true) ∧ Below w.heap.size w w' := by
  rcases Int.lt_or_le 1048576 (((n1 : Int) + (wgt xs1 : Nat))) with h1 | h1
  · exact walkOut1 w x0 hb0 A1 n1 c1 S1 xs1 hr1 hn1 hw1  h1
  exact walkIn w x0 hb0 A1 n1 c1 S1 xs1 hr1 hn1 hw1 h1

set_option maxRecDepth 100000 in
theorem lifted (os : Os) (started : os.Started) (H : Type) (enc : TypeId × Value → H) :
    ReturnsInHanded {} Try.checked os 3 .any (Rows.fnExactValidScheduleSpec.pre6 enc Try.prog Try.f3 Rows.fnExactValidScheduleRow.domain false) (Rows.fnExactValidScheduleSpec.post enc Try.prog Try.f3 false true false false) := by
  refine returnsInHanded_of_change (C := Try.checked) own started (by kernel_rfl) Try.func3
    (ChangeSpec.witness6 (enc := enc) (C := Try.checked) false ⟨#[], #[.int .i64 0, .slice none 0 0], []⟩ 8 (by kernel_rfl) (by kernel_rfl) (by kernel_rfl) (by kernel_rfl)) ?_
  intro W base args ds gs before hval0 hW hcnd _
  have hval : ∀ (j : Nat) t v, Try.f3.params[j]? = some t → args[j]? = some v → Value.okWide Try.prog W .any base t v := hval0
  have hW' := hW
  obtain ⟨p, q, hA0, hV, rfl, hfz, hnd⟩ := hW
  have hA : DataW.TrodAll enc Try.prog W 0 (fun _ => true) true Try.f3.params.toList args.toList ds p := hA0
  rw [Try.params3] at hA hval
  obtain ⟨v0, vs0, d0, ds0, p0, q0, hargs, rfl, rfl, h0, r0⟩ := trodAll_cons hA
  obtain ⟨v1, vs1, d1, ds1, p1, q1, rfl, rfl, rfl, h1, r1⟩ := trodAll_cons r0
  obtain ⟨rfl, rfl, rfl⟩ := trodAll_nil r1
  obtain rfl : args = #[v0, v1] := by cases args; simp_all
  obtain ⟨rfl, rfl⟩ := trodVars_none hV
  have k0 := h0
  have lt0 : ∀ x ∈ p0, x.block < W.heap.size := by obtain ⟨m, hm⟩ := k0; exact DataW.trod_lt m _ _ _ hm
  obtain ⟨x0, rfl, e0, _, hwf0⟩ := open_int Try.underlying2 (hval 0 2 v0 rfl rfl) h0
  have hb0 := wf_b64 hwf0
  obtain ⟨A1, n1, c1, rfl⟩ := okWide_slice Try.underlying22 (hval 1 22 v1 rfl rfl)
  have k1 := h1
  have lt1 : ∀ x ∈ p1, x.block < W.heap.size := by obtain ⟨m, hm⟩ := k1; exact DataW.trod_lt m _ _ _ hm
  obtain ⟨S1, xs1, hr1, hn1, hw1⟩ := open_L h1
  clear hA0 hval0
  refine (walk W x0 hb0 A1 n1 c1 S1 xs1 hr1 hn1 hw1).mono fun e W' ⟨he, bel⟩ => ?_
  subst he
  exact ⟨_, rfl, _, _, _, [], _, [], hW', trodAll_mk1 (shut_bool Try.underlying4 _), (trodAll_cons_mk (Below.trod laidOut (by kernel_rfl) (of_decide_eq_true (by kernel_rfl)) k0 bel lt0) (trodAll_cons_mk (Below.trod laidOut (by kernel_rfl) (of_decide_eq_true (by kernel_rfl)) k1 bel lt1) trodAll_mk0)), rfl, bel.frame _, fun h => by cases h⟩

theorem over : Rows.fnExactValidScheduleRow.holds Try.pinned (OpenSpec.ofChange Rows.fnExactValidScheduleSpec) :=
  OpenClaim.holds_of_wide 3 Try.f3 rfl rfl rfl rfl rfl rfl rfl ⟨rfl, rfl, rfl, rfl, rfl⟩ rfl rfl rfl rfl rfl (by kernel_rfl) Try.func3 (by kernel_rfl)
    (of_decide_eq_true (by kernel_rfl)) (by unfold Func.isWrapper; first | (rw [if_pos (by decide +kernel)]; kernel_rfl) | (rw [if_neg (by decide +kernel)]; exact ⟨rfl, rfl⟩))
    (fun os started H enc _ => lifted os started H enc)

/-- The statement. -/
theorem proved : Rows.FnExactValidScheduleSaid := over
#print axioms proved
end Go.Proofs.Ytnpbkkglnbobaaa.lawValidSchedule
