/-
  The program's ValidHadamard returns what the reference's returns: the statement FnExactValidHadamardSaid. Conditions: none.
-/
import Derived.Test.YtjoihaghoahnlaaRows
import Derived.Test.YtjoihaghoahnlaaHad2
import Derived.Test.YtjoihaghoahnlaaLawFrame
namespace Go.Proofs.Ytjoihaghoahnlaa.lawValidHadamard
open Go.ChangeShapes Go.WideShapes Go.ChangeAt Go.RowKit Go.Deep
set_option linter.unusedVariables false
set_option linter.unusedSimpArgs false

theorem own : ownKnob Try.prog.godebug = none := by kernel_rfl
theorem laidOut : laidOutB Try.prog = true := by kernel_rfl

set_option maxHeartbeats 400000 in
theorem walkOut0 (w : World) (A0 : Option Addr) (n0 c0 : Nat) (R0 : Spine) (xs0 : List (List Int)) (hr0 : RdM w A0 c0 R0 xs0) (hn0 : xs0.length = n0) (hw0 : WfM xs0) (hz : 1048576 < ((n0 : Int) + (tot xs0 : Nat))) :
    Calls Try.prog 6 #[.slice A0 n0 c0] w fun e w' => e = .returned (.bool true) ∧ Below w.heap.size w w' := by
  have HR0 := Lib.hid hr0
  have HN0 := Lib.hid hn0
  have hm0 : n0 ≤ 9223372036854775807 := by have h1 := hr0.le; have h2 := hr0.cap; unfold maxLen at h2; omega
  clear hr0 hn0
  go_enter Try.func6, Try.ntmps6
  go_wp2_with fail
  refine (szSS_out _ A0 n0 c0 xs0 (1048576) ((HN0.out) ▸ (HR0.out).atL) (HN0.out) (by omega) (by omega) (by omega) (by omega)).mono ?_
  rintro e w' ⟨rfl, rfl⟩
  go_wp2
  go_ret
  exact ⟨rfl, Below.refl _ _⟩

set_option maxHeartbeats 1000000 in
set_option maxRecDepth 100000 in
theorem walkIn (w : World) (A0 : Option Addr) (n0 c0 : Nat) (R0 : Spine) (xs0 : List (List Int)) (hr0 : RdM w A0 c0 R0 xs0) (hn0 : xs0.length = n0) (hw0 : WfM xs0) (hz0 : ((n0 : Int) + (tot xs0 : Nat)) ≤ 1048576) :
    Calls Try.prog 6 #[.slice A0 n0 c0] w fun e w' => e = .returned (.bool true) ∧ Below w.heap.size w w' := by
  have HT0 : tot xs0 ≤ 1048576 := by omega
  have HR0 := Lib.hid hr0
  have HN0 := Lib.hid hn0
  have hm0 : n0 ≤ 9223372036854775807 := by have h1 := hr0.le; have h2 := hr0.cap; unfold maxLen at h2; omega
  clear hr0 hn0
  go_enter Try.func6, Try.ntmps6
  go_wp2_with fail
  refine (szSS_in _ A0 n0 c0 xs0 (1048576) ((HN0.out) ▸ (HR0.out).atL) (HN0.out) (by omega) (by omega)).mono ?_
  rintro e w' ⟨rfl, rfl⟩
  go_wp2_with fail
  refine (toSS w A0 n0 c0 R0 xs0 ((HR0.out).below (Below.refl _ _)) (HN0.out) (by omega) (fun k hk => by have := row_small HT0 k (by rw [HN0.out]; exact hk); omega)).mono ?_
  rintro e w1 ⟨⟨p0A, p0R, rfl, ho⟩, hb⟩
  have z1 : w.heap.size ≤ w1.heap.size := hb.size
  have B1 : Below w.heap.size w w1 := (hb.mono (by omega))
  clear hb
  have p0_1 := Lib.hid ho.in_
  clear ho
  go_wp2_with fail
  refine (specValidHadamard_c w1 p0A n0 n0 p0R xs0 p0_1.out.own.rd (HN0.out) hw0 (by omega)).mono ?_
  rintro e w2 ⟨rfl, hb⟩
  have z2 : w1.heap.size ≤ w2.heap.size := hb.size
  have B2 : Below w.heap.size w w2 := B1.trans (hb.mono (by omega))
  have p0_2 := Lib.hid (p0_1.out.step (w' := w2) (fun k h1 h2 => hb.block k (by omega)))
  clear p0_1
  clear hb
  go_wp2_with fail
  refine (toSS w2 A0 n0 c0 R0 xs0 ((HR0.out).below B2) (HN0.out) (by omega) (fun k hk => by have := row_small HT0 k (by rw [HN0.out]; exact hk); omega)).mono ?_
  rintro e w3 ⟨⟨x0A, x0R, rfl, ho⟩, hb⟩
  have z3 : w2.heap.size ≤ w3.heap.size := hb.size
  have B3 : Below w.heap.size w w3 := B2.trans (hb.mono (by omega))
  have p0_3 := Lib.hid (p0_2.out.step (w' := w3) (fun k h1 h2 => hb.block k (by omega)))
  clear p0_2
  clear hb
  have x0_3 := Lib.hid ho.in_
  clear ho
  go_wp2_with fail
  refine (implValidHadamard_c w3 x0A n0 n0 x0R xs0 x0_3.out.own.rd (HN0.out) hw0 (by omega)).mono ?_
  rintro e w4 ⟨rfl, hb⟩
  have z4 : w3.heap.size ≤ w4.heap.size := hb.size
  have B4 : Below w.heap.size w w4 := B3.trans (hb.mono (by omega))
  have p0_4 := Lib.hid (p0_3.out.step (w' := w4) (fun k h1 h2 => hb.block k (by omega)))
  clear p0_3
  have x0_4 := Lib.hid (x0_3.out.step (w' := w4) (fun k h1 h2 => hb.block k (by omega)))
  clear x0_3
  clear hb
  go_wp2_with fail
  refine (toSS w4 A0 n0 c0 R0 xs0 ((HR0.out).below B4) (HN0.out) (by omega) (fun k hk => by have := row_small HT0 k (by rw [HN0.out]; exact hk); omega)).mono ?_
  rintro e w5 ⟨⟨y0A, y0R, rfl, ho⟩, hb⟩
  have z5 : w4.heap.size ≤ w5.heap.size := hb.size
  have B5 : Below w.heap.size w w5 := B4.trans (hb.mono (by omega))
  have p0_5 := Lib.hid (p0_4.out.step (w' := w5) (fun k h1 h2 => hb.block k (by omega)))
  clear p0_4
  have x0_5 := Lib.hid (x0_4.out.step (w' := w5) (fun k h1 h2 => hb.block k (by omega)))
  clear x0_4
  clear hb
  have y0_5 := Lib.hid ho.in_
  clear ho
  go_wp2_with fail
  refine (eqSS_v w5 x0_5.out.own.rd y0_5.out.own.rd (HN0.out) (by have := HN0.out; omega) (fun k hk => by have := row_small HT0 k hk; omega)).mono ?_
  rintro e w6 ⟨rfl, hb⟩
  have z6 : w5.heap.size ≤ w6.heap.size := hb.size
  have B6 : Below w.heap.size w w6 := B5.trans (hb.mono (by omega))
  have p0_6 := Lib.hid (p0_5.out.step (w' := w6) (fun k h1 h2 => hb.block k (by omega)))
  clear p0_5
  have x0_6 := Lib.hid (x0_5.out.step (w' := w6) (fun k h1 h2 => hb.block k (by omega)))
  clear x0_5
  have y0_6 := Lib.hid (y0_5.out.step (w' := w6) (fun k h1 h2 => hb.block k (by omega)))
  clear y0_5
  clear hb
  go_wp2
  go_ret
  exact ⟨rfl, B6⟩

theorem walk (w : World) (A0 : Option Addr) (n0 c0 : Nat) (R0 : Spine) (xs0 : List (List Int)) (hr0 : RdM w A0 c0 R0 xs0) (hn0 : xs0.length = n0) (hw0 : WfM xs0) :
    Calls Try.prog 6 #[.slice A0 n0 c0] w fun e w' => e = .returned (.bool true) ∧ Below w.heap.size w w' := by
  rcases Int.lt_or_le 1048576 (((n0 : Int) + (tot xs0 : Nat))) with h0 | h0
  · exact walkOut0 w A0 n0 c0 R0 xs0 hr0 hn0 hw0  h0
  exact walkIn w A0 n0 c0 R0 xs0 hr0 hn0 hw0 h0

set_option maxRecDepth 100000 in
theorem lifted (os : Os) (started : os.Started) (H : Type) (enc : TypeId × Value → H) :
    ReturnsInHanded {} Try.checked os 6 .any (Rows.fnExactValidHadamardSpec.pre6 enc Try.prog Try.f6 Rows.fnExactValidHadamardRow.domain false) (Rows.fnExactValidHadamardSpec.post enc Try.prog Try.f6 false true false false) := by
  refine returnsInHanded_of_change (C := Try.checked) own started (by kernel_rfl) Try.func6
    (ChangeSpec.witness6 (enc := enc) (C := Try.checked) false ⟨#[], #[.slice none 0 0], []⟩ 8 (by kernel_rfl) (by kernel_rfl) (by kernel_rfl) (by kernel_rfl)) ?_
  intro W base args ds gs before hval0 hW hcnd _
  have hval : ∀ (j : Nat) t v, Try.f6.params[j]? = some t → args[j]? = some v → Value.okWide Try.prog W .any base t v := hval0
  have hW' := hW
  obtain ⟨p, q, hA0, hV, rfl, hfz, hnd⟩ := hW
  have hA : DataW.TrodAll enc Try.prog W 0 (fun _ => true) true Try.f6.params.toList args.toList ds p := hA0
  rw [Try.params6] at hA hval
  obtain ⟨v0, vs0, d0, ds0, p0, q0, hargs, rfl, rfl, h0, r0⟩ := trodAll_cons hA
  obtain ⟨rfl, rfl, rfl⟩ := trodAll_nil r0
  obtain rfl : args = #[v0] := by cases args; simp_all
  obtain ⟨rfl, rfl⟩ := trodVars_none hV
  obtain ⟨A0, n0, c0, rfl⟩ := okWide_slice Try.underlying27 (hval 0 27 v0 rfl rfl)
  have k0 := h0
  have lt0 : ∀ x ∈ p0, x.block < W.heap.size := by obtain ⟨m, hm⟩ := k0; exact DataW.trod_lt m _ _ _ hm
  obtain ⟨R0, xs0, hr0, hn0, hw0⟩ := open_M h0
  clear hA0 hval0
  refine (walk W A0 n0 c0 R0 xs0 hr0 hn0 hw0).mono fun e W' ⟨he, bel⟩ => ?_
  subst he
  exact ⟨_, rfl, _, _, _, [], _, [], hW', trodAll_mk1 (shut_bool Try.underlying4 _), (trodAll_cons_mk (Below.trod laidOut (by kernel_rfl) (of_decide_eq_true (by kernel_rfl)) k0 bel lt0) trodAll_mk0), rfl, bel.frame _, fun h => by cases h⟩

theorem over : Rows.fnExactValidHadamardRow.holds Try.pinned (OpenSpec.ofChange Rows.fnExactValidHadamardSpec) :=
  OpenClaim.holds_of_wide 6 Try.f6 rfl rfl rfl rfl rfl rfl rfl ⟨rfl, rfl, rfl, rfl, rfl⟩ rfl rfl rfl rfl rfl (by kernel_rfl) Try.func6 (by kernel_rfl)
    (of_decide_eq_true (by kernel_rfl)) (by unfold Func.isWrapper; first | (rw [if_pos (by decide +kernel)]; kernel_rfl) | (rw [if_neg (by decide +kernel)]; exact ⟨rfl, rfl⟩))
    (fun os started H enc _ => lifted os started H enc)

/-- The statement. -/
theorem proved : Rows.FnExactValidHadamardSaid := over
#print axioms proved
end Go.Proofs.Ytjoihaghoahnlaa.lawValidHadamard
