/-
  The program's CountBreaks returns what the reference's returns: the statement FnExactCountBreaksSaid. Conditions: none.
-/
import Derived.Test.YtdcegepkgcflpaaRows
import Derived.Test.YtdcegepkgcflpaaBrk4
import Derived.Test.YtdcegepkgcflpaaLawFrame
import Derived.Test.YtdcegepkgcflpaaTFrame
namespace Go.Proofs.Ytdcegepkgcflpaa.lawCountBreaks
open Go.ChangeShapes Go.WideShapes Go.ChangeAt Go.RowKit Go.Deep
set_option linter.unusedVariables false
set_option linter.unusedSimpArgs false

theorem own : ownKnob Try.prog.godebug = none := by kernel_rfl
theorem laidOut : laidOutB Try.prog = true := by kernel_rfl

set_option maxHeartbeats 400000 in
theorem walkOut1 (w : World) (x0 : Int) (hb0 : -9223372036854775808 ≤ x0 ∧ x0 ≤ 9223372036854775807) (A1 : Option Addr) (n1 c1 : Nat) (S1 : Spine3) (xs1 : List (List (List Int))) (hr1 : RdL w A1 c1 S1 xs1) (hn1 : xs1.length = n1) (hw1 : WfT xs1) (A2 : Option Addr) (n2 c2 : Nat) (R2 : Spine) (xs2 : List (List Int)) (hr2 : RdM w A2 c2 R2 xs2) (hn2 : xs2.length = n2) (hw2 : WfM xs2) (hz : 1048576 < ((n1 : Int) + (wgt xs1 : Nat))) :
    Calls Try.prog 6 #[.int .i64 x0, .slice A1 n1 c1, .slice A2 n2 c2] w fun e w' => e = .returned (.bool true) ∧ Below w.heap.size w w' := by
  have HR1 := Lib.hid hr1
  have HN1 := Lib.hid hn1
  have hm1 : n1 ≤ 9223372036854775807 := by have h1 := hr1.le; have h2 := hr1.cap; unfold maxLen at h2; omega
  clear hr1 hn1
  have HR2 := Lib.hid hr2
  have HN2 := Lib.hid hn2
  have hm2 : n2 ≤ 9223372036854775807 := by have h1 := hr2.le; have h2 := hr2.cap; unfold maxLen at h2; omega
  clear hr2 hn2
  go_enter Try.func6, Try.ntmps6
  go_wp2_with fail
  refine (szL_out w A1 n1 c1 S1 xs1 (1048576) (HR1.out) (HN1.out) (by omega) (by omega) (by omega)).mono ?_
  rintro e w' ⟨rfl, rfl⟩
  go_wp2
  go_ret
  exact ⟨rfl, Below.refl _ _⟩

set_option maxHeartbeats 400000 in
theorem walkOut2 (w : World) (x0 : Int) (hb0 : -9223372036854775808 ≤ x0 ∧ x0 ≤ 9223372036854775807) (A1 : Option Addr) (n1 c1 : Nat) (S1 : Spine3) (xs1 : List (List (List Int))) (hr1 : RdL w A1 c1 S1 xs1) (hn1 : xs1.length = n1) (hw1 : WfT xs1) (A2 : Option Addr) (n2 c2 : Nat) (R2 : Spine) (xs2 : List (List Int)) (hr2 : RdM w A2 c2 R2 xs2) (hn2 : xs2.length = n2) (hw2 : WfM xs2) (hz1 : ((n1 : Int) + (wgt xs1 : Nat)) ≤ 1048576) (hz : 1048576 < ((n1 : Int) + (wgt xs1 : Nat)) + ((n2 : Int) + (tot xs2 : Nat))) :
    Calls Try.prog 6 #[.int .i64 x0, .slice A1 n1 c1, .slice A2 n2 c2] w fun e w' => e = .returned (.bool true) ∧ Below w.heap.size w w' := by
  have HR1 := Lib.hid hr1
  have HN1 := Lib.hid hn1
  have hm1 : n1 ≤ 9223372036854775807 := by have h1 := hr1.le; have h2 := hr1.cap; unfold maxLen at h2; omega
  clear hr1 hn1
  have HR2 := Lib.hid hr2
  have HN2 := Lib.hid hn2
  have hm2 : n2 ≤ 9223372036854775807 := by have h1 := hr2.le; have h2 := hr2.cap; unfold maxLen at h2; omega
  clear hr2 hn2
  go_enter Try.func6, Try.ntmps6
  go_wp2_with fail
  refine (szL_in w A1 n1 c1 S1 xs1 (1048576) (HR1.out) (HN1.out) (by omega) (by omega)).mono ?_
  rintro e w' ⟨rfl, rfl⟩
  go_wp2_with fail
  refine (szSS_out _ A2 n2 c2 xs2 (1048576 - (n1 : Int) - ((wgt xs1 : Nat) : Int)) ((HN2.out) ▸ (HR2.out).atL) (HN2.out) (by omega) (by omega) (by omega) (by omega)).mono ?_
  rintro e w' ⟨rfl, rfl⟩
  go_wp2
  go_ret
  exact ⟨rfl, Below.refl _ _⟩

set_option maxHeartbeats 4000000 in
set_option maxRecDepth 100000 in
theorem walkIn (w : World) (x0 : Int) (hb0 : -9223372036854775808 ≤ x0 ∧ x0 ≤ 9223372036854775807) (A1 : Option Addr) (n1 c1 : Nat) (S1 : Spine3) (xs1 : List (List (List Int))) (hr1 : RdL w A1 c1 S1 xs1) (hn1 : xs1.length = n1) (hw1 : WfT xs1) (A2 : Option Addr) (n2 c2 : Nat) (R2 : Spine) (xs2 : List (List Int)) (hr2 : RdM w A2 c2 R2 xs2) (hn2 : xs2.length = n2) (hw2 : WfM xs2) (hz1 : ((n1 : Int) + (wgt xs1 : Nat)) ≤ 1048576) (hz2 : ((n1 : Int) + (wgt xs1 : Nat)) + ((n2 : Int) + (tot xs2 : Nat)) ≤ 1048576) :
    Calls Try.prog 6 #[.int .i64 x0, .slice A1 n1 c1, .slice A2 n2 c2] w fun e w' => e = .returned (.bool true) ∧ Below w.heap.size w w' := by
  have HT1 : wgt xs1 ≤ 1048576 := by omega
  have hc1 := cnt3_le_wgt xs1
  have HT2 : tot xs2 ≤ 1048576 := by omega
  have HR1 := Lib.hid hr1
  have HN1 := Lib.hid hn1
  have hm1 : n1 ≤ 9223372036854775807 := by have h1 := hr1.le; have h2 := hr1.cap; unfold maxLen at h2; omega
  clear hr1 hn1
  have HR2 := Lib.hid hr2
  have HN2 := Lib.hid hn2
  have hm2 : n2 ≤ 9223372036854775807 := by have h1 := hr2.le; have h2 := hr2.cap; unfold maxLen at h2; omega
  clear hr2 hn2
  go_enter Try.func6, Try.ntmps6
  go_wp2_with fail
  refine (szL_in w A1 n1 c1 S1 xs1 (1048576) (HR1.out) (HN1.out) (by omega) (by omega)).mono ?_
  rintro e w' ⟨rfl, rfl⟩
  go_wp2_with fail
  refine (szSS_in _ A2 n2 c2 xs2 (1048576 - (n1 : Int) - ((wgt xs1 : Nat) : Int)) ((HN2.out) ▸ (HR2.out).atL) (HN2.out) (by omega) (by omega)).mono ?_
  rintro e w' ⟨rfl, rfl⟩
  go_wp2_with fail
  refine (toL w A1 n1 c1 S1 xs1 ((HR1.out).below (Below.refl _ _)) (HN1.out) (by omega) HT1).mono ?_
  rintro e w1 ⟨⟨p1A, p1S, p1I, rfl, ho⟩, hb⟩
  have z1 : w.heap.size ≤ w1.heap.size := hb.size
  have B1 : Below w.heap.size w w1 := (hb.mono (by omega))
  clear hb
  have p1_1 := Lib.hid ho
  clear ho
  go_wp2_with fail
  refine (toSS w1 A2 n2 c2 R2 xs2 ((HR2.out).below B1) (HN2.out) (by omega) (fun k hk => by have := row_small HT2 k (by rw [HN2.out]; exact hk); omega)).mono ?_
  rintro e w2 ⟨⟨p2A, p2R, rfl, ho⟩, hb⟩
  have z2 : w1.heap.size ≤ w2.heap.size := hb.size
  have B2 : Below w.heap.size w w2 := B1.trans (hb.mono (by omega))
  have p1_2 := Lib.hid (p1_1.out.step (w' := w2) (fun k h1 h2 => hb.block k (by omega)))
  clear p1_1
  clear hb
  have p2_2 := Lib.hid ho.in_
  clear ho
  go_wp2_with fail
  refine (specCountBreaks_c w2 x0 hb0 p1A n1 n1 p1S xs1 p1_2.out.rd (HN1.out) hw1 (by omega) p2A n2 n2 p2R xs2 p2_2.out.own.rd (HN2.out) hw2 (by omega)).mono ?_
  rintro e w3 ⟨rfl, hb⟩
  have z3 : w2.heap.size ≤ w3.heap.size := hb.size
  have B3 : Below w.heap.size w w3 := B2.trans (hb.mono (by omega))
  have p1_3 := Lib.hid (p1_2.out.step (w' := w3) (fun k h1 h2 => hb.block k (by omega)))
  clear p1_2
  have p2_3 := Lib.hid (p2_2.out.step (w' := w3) (fun k h1 h2 => hb.block k (by omega)))
  clear p2_2
  clear hb
  go_wp2_with fail
  refine (toL w3 A1 n1 c1 S1 xs1 ((HR1.out).below B3) (HN1.out) (by omega) HT1).mono ?_
  rintro e w4 ⟨⟨x1A, x1S, x1I, rfl, ho⟩, hb⟩
  have z4 : w3.heap.size ≤ w4.heap.size := hb.size
  have B4 : Below w.heap.size w w4 := B3.trans (hb.mono (by omega))
  have p1_4 := Lib.hid (p1_3.out.step (w' := w4) (fun k h1 h2 => hb.block k (by omega)))
  clear p1_3
  have p2_4 := Lib.hid (p2_3.out.step (w' := w4) (fun k h1 h2 => hb.block k (by omega)))
  clear p2_3
  clear hb
  have x1_4 := Lib.hid ho
  clear ho
  go_wp2_with fail
  refine (toSS w4 A2 n2 c2 R2 xs2 ((HR2.out).below B4) (HN2.out) (by omega) (fun k hk => by have := row_small HT2 k (by rw [HN2.out]; exact hk); omega)).mono ?_
  rintro e w5 ⟨⟨x2A, x2R, rfl, ho⟩, hb⟩
  have z5 : w4.heap.size ≤ w5.heap.size := hb.size
  have B5 : Below w.heap.size w w5 := B4.trans (hb.mono (by omega))
  have p1_5 := Lib.hid (p1_4.out.step (w' := w5) (fun k h1 h2 => hb.block k (by omega)))
  clear p1_4
  have p2_5 := Lib.hid (p2_4.out.step (w' := w5) (fun k h1 h2 => hb.block k (by omega)))
  clear p2_4
  have x1_5 := Lib.hid (x1_4.out.step (w' := w5) (fun k h1 h2 => hb.block k (by omega)))
  clear x1_4
  clear hb
  have x2_5 := Lib.hid ho.in_
  clear ho
  go_wp2_with fail
  refine (implCountBreaks_c w5 x0 hb0 x1A n1 n1 x1S xs1 x1_5.out.rd (HN1.out) hw1 (by omega) x2A n2 n2 x2R xs2 x2_5.out.own.rd (HN2.out) hw2 (by omega)).mono ?_
  rintro e w6 ⟨rfl, hb⟩
  have z6 : w5.heap.size ≤ w6.heap.size := hb.size
  have B6 : Below w.heap.size w w6 := B5.trans (hb.mono (by omega))
  have p1_6 := Lib.hid (p1_5.out.step (w' := w6) (fun k h1 h2 => hb.block k (by omega)))
  clear p1_5
  have p2_6 := Lib.hid (p2_5.out.step (w' := w6) (fun k h1 h2 => hb.block k (by omega)))
  clear p2_5
  have x1_6 := Lib.hid (x1_5.out.step (w' := w6) (fun k h1 h2 => hb.block k (by omega)))
  clear x1_5
  have x2_6 := Lib.hid (x2_5.out.step (w' := w6) (fun k h1 h2 => hb.block k (by omega)))
  clear x2_5
  clear hb
  go_wp2_with fail
  refine (toL w6 A1 n1 c1 S1 xs1 ((HR1.out).below B6) (HN1.out) (by omega) HT1).mono ?_
  rintro e w7 ⟨⟨y1A, y1S, y1I, rfl, ho⟩, hb⟩
  have z7 : w6.heap.size ≤ w7.heap.size := hb.size
  have B7 : Below w.heap.size w w7 := B6.trans (hb.mono (by omega))
  have p1_7 := Lib.hid (p1_6.out.step (w' := w7) (fun k h1 h2 => hb.block k (by omega)))
  clear p1_6
  have p2_7 := Lib.hid (p2_6.out.step (w' := w7) (fun k h1 h2 => hb.block k (by omega)))
  clear p2_6
  have x1_7 := Lib.hid (x1_6.out.step (w' := w7) (fun k h1 h2 => hb.block k (by omega)))
  clear x1_6
  have x2_7 := Lib.hid (x2_6.out.step (w' := w7) (fun k h1 h2 => hb.block k (by omega)))
  clear x2_6
  clear hb
  have y1_7 := Lib.hid ho
  clear ho
  go_wp2_with fail
  refine (eqL_v w7 x1_7.out.rd y1_7.out.rd (HN1.out) (by have := HN1.out; omega) HT1).mono ?_
  rintro e w8 ⟨rfl, hb⟩
  have z8 : w7.heap.size ≤ w8.heap.size := hb.size
  have B8 : Below w.heap.size w w8 := B7.trans (hb.mono (by omega))
  have p1_8 := Lib.hid (p1_7.out.step (w' := w8) (fun k h1 h2 => hb.block k (by omega)))
  clear p1_7
  have p2_8 := Lib.hid (p2_7.out.step (w' := w8) (fun k h1 h2 => hb.block k (by omega)))
  clear p2_7
  have x1_8 := Lib.hid (x1_7.out.step (w' := w8) (fun k h1 h2 => hb.block k (by omega)))
  clear x1_7
  have x2_8 := Lib.hid (x2_7.out.step (w' := w8) (fun k h1 h2 => hb.block k (by omega)))
  clear x2_7
  have y1_8 := Lib.hid (y1_7.out.step (w' := w8) (fun k h1 h2 => hb.block k (by omega)))
  clear y1_7
  clear hb
  go_wp2_with fail
  refine (toSS w8 A2 n2 c2 R2 xs2 ((HR2.out).below B8) (HN2.out) (by omega) (fun k hk => by have := row_small HT2 k (by rw [HN2.out]; exact hk); omega)).mono ?_
  rintro e w9 ⟨⟨y2A, y2R, rfl, ho⟩, hb⟩
  have z9 : w8.heap.size ≤ w9.heap.size := hb.size
  have B9 : Below w.heap.size w w9 := B8.trans (hb.mono (by omega))
  have p1_9 := Lib.hid (p1_8.out.step (w' := w9) (fun k h1 h2 => hb.block k (by omega)))
  clear p1_8
  have p2_9 := Lib.hid (p2_8.out.step (w' := w9) (fun k h1 h2 => hb.block k (by omega)))
  clear p2_8
  have x1_9 := Lib.hid (x1_8.out.step (w' := w9) (fun k h1 h2 => hb.block k (by omega)))
  clear x1_8
  have x2_9 := Lib.hid (x2_8.out.step (w' := w9) (fun k h1 h2 => hb.block k (by omega)))
  clear x2_8
  have y1_9 := Lib.hid (y1_8.out.step (w' := w9) (fun k h1 h2 => hb.block k (by omega)))
  clear y1_8
  clear hb
  have y2_9 := Lib.hid ho.in_
  clear ho
  go_wp2_with fail
  refine (eqSS_v w9 x2_9.out.own.rd y2_9.out.own.rd (HN2.out) (by have := HN2.out; omega) (fun k hk => by have := row_small HT2 k hk; omega)).mono ?_
  rintro e w10 ⟨rfl, hb⟩
  have z10 : w9.heap.size ≤ w10.heap.size := hb.size
  have B10 : Below w.heap.size w w10 := B9.trans (hb.mono (by omega))
  have p1_10 := Lib.hid (p1_9.out.step (w' := w10) (fun k h1 h2 => hb.block k (by omega)))
  clear p1_9
  have p2_10 := Lib.hid (p2_9.out.step (w' := w10) (fun k h1 h2 => hb.block k (by omega)))
  clear p2_9
  have x1_10 := Lib.hid (x1_9.out.step (w' := w10) (fun k h1 h2 => hb.block k (by omega)))
  clear x1_9
  have x2_10 := Lib.hid (x2_9.out.step (w' := w10) (fun k h1 h2 => hb.block k (by omega)))
  clear x2_9
  have y1_10 := Lib.hid (y1_9.out.step (w' := w10) (fun k h1 h2 => hb.block k (by omega)))
  clear y1_9
  have y2_10 := Lib.hid (y2_9.out.step (w' := w10) (fun k h1 h2 => hb.block k (by omega)))
  clear y2_9
  clear hb
  go_wp2
  go_ret
  exact ⟨rfl, B10⟩

theorem walk (w : World) (x0 : Int) (hb0 : -9223372036854775808 ≤ x0 ∧ x0 ≤ 9223372036854775807) (A1 : Option Addr) (n1 c1 : Nat) (S1 : Spine3) (xs1 : List (List (List Int))) (hr1 : RdL w A1 c1 S1 xs1) (hn1 : xs1.length = n1) (hw1 : WfT xs1) (A2 : Option Addr) (n2 c2 : Nat) (R2 : Spine) (xs2 : List (List Int)) (hr2 : RdM w A2 c2 R2 xs2) (hn2 : xs2.length = n2) (hw2 : WfM xs2) :
    Calls Try.prog 6 #[.int .i64 x0, .slice A1 n1 c1, .slice A2 n2 c2] w fun e w' => e = .returned (.bool true) ∧ Below w.heap.size w w' := by
  rcases Int.lt_or_le 1048576 (((n1 : Int) + (wgt xs1 : Nat))) with h1 | h1
  · exact walkOut1 w x0 hb0 A1 n1 c1 S1 xs1 hr1 hn1 hw1 A2 n2 c2 R2 xs2 hr2 hn2 hw2  h1
  rcases Int.lt_or_le 1048576 (((n1 : Int) + (wgt xs1 : Nat)) + ((n2 : Int) + (tot xs2 : Nat))) with h2 | h2
  · exact walkOut2 w x0 hb0 A1 n1 c1 S1 xs1 hr1 hn1 hw1 A2 n2 c2 R2 xs2 hr2 hn2 hw2 h1 h2
  exact walkIn w x0 hb0 A1 n1 c1 S1 xs1 hr1 hn1 hw1 A2 n2 c2 R2 xs2 hr2 hn2 hw2 h1 h2

set_option maxRecDepth 100000 in
theorem lifted (os : Os) (started : os.Started) (H : Type) (enc : TypeId × Value → H) :
    ReturnsInHanded {} Try.checked os 6 .any (Rows.fnExactCountBreaksSpec.pre6 enc Try.prog Try.f6 Rows.fnExactCountBreaksRow.domain false) (Rows.fnExactCountBreaksSpec.post enc Try.prog Try.f6 false true false false) := by
  refine returnsInHanded_of_change (C := Try.checked) own started (by kernel_rfl) Try.func6
    (ChangeSpec.witness6 (enc := enc) (C := Try.checked) false ⟨#[], #[.int .i64 0, .slice none 0 0, .slice none 0 0], []⟩ 8 (by kernel_rfl) (by kernel_rfl) (by kernel_rfl) (by kernel_rfl)) ?_
  intro W base args ds gs before hval0 hW hcnd _
  have hval : ∀ (j : Nat) t v, Try.f6.params[j]? = some t → args[j]? = some v → Value.okWide Try.prog W .any base t v := hval0
  have hW' := hW
  obtain ⟨p, q, hA0, hV, rfl, hfz, hnd⟩ := hW
  have hA : DataW.TrodAll enc Try.prog W 0 (fun _ => true) true Try.f6.params.toList args.toList ds p := hA0
  rw [Try.params6] at hA hval
  obtain ⟨v0, vs0, d0, ds0, p0, q0, hargs, rfl, rfl, h0, r0⟩ := trodAll_cons hA
  obtain ⟨v1, vs1, d1, ds1, p1, q1, rfl, rfl, rfl, h1, r1⟩ := trodAll_cons r0
  obtain ⟨v2, vs2, d2, ds2, p2, q2, rfl, rfl, rfl, h2, r2⟩ := trodAll_cons r1
  obtain ⟨rfl, rfl, rfl⟩ := trodAll_nil r2
  obtain rfl : args = #[v0, v1, v2] := by cases args; simp_all
  obtain ⟨rfl, rfl⟩ := trodVars_none hV
  have k0 := h0
  have lt0 : ∀ x ∈ p0, x.block < W.heap.size := by obtain ⟨m, hm⟩ := k0; exact DataW.trod_lt m _ _ _ hm
  obtain ⟨x0, rfl, e0, _, hwf0⟩ := open_int Try.underlying2 (hval 0 2 v0 rfl rfl) h0
  have hb0 := wf_b64 hwf0
  obtain ⟨A1, n1, c1, rfl⟩ := okWide_slice Try.underlying40 (hval 1 40 v1 rfl rfl)
  have k1 := h1
  have lt1 : ∀ x ∈ p1, x.block < W.heap.size := by obtain ⟨m, hm⟩ := k1; exact DataW.trod_lt m _ _ _ hm
  obtain ⟨S1, xs1, hr1, hn1, hw1⟩ := open_L h1
  obtain ⟨A2, n2, c2, rfl⟩ := okWide_slice Try.underlying22 (hval 2 22 v2 rfl rfl)
  have k2 := h2
  have lt2 : ∀ x ∈ p2, x.block < W.heap.size := by obtain ⟨m, hm⟩ := k2; exact DataW.trod_lt m _ _ _ hm
  obtain ⟨R2, xs2, hr2, hn2, hw2⟩ := open_M h2
  clear hA0 hval0
  refine (walk W x0 hb0 A1 n1 c1 S1 xs1 hr1 hn1 hw1 A2 n2 c2 R2 xs2 hr2 hn2 hw2).mono fun e W' ⟨he, bel⟩ => ?_
  subst he
  exact ⟨_, rfl, _, _, _, [], _, [], hW', trodAll_mk1 (shut_bool Try.underlying4 _), (trodAll_cons_mk (Below.trod laidOut (by kernel_rfl) (of_decide_eq_true (by kernel_rfl)) k0 bel lt0) (trodAll_cons_mk (Below.trod laidOut (by kernel_rfl) (of_decide_eq_true (by kernel_rfl)) k1 bel lt1) (trodAll_cons_mk (Below.trod laidOut (by kernel_rfl) (of_decide_eq_true (by kernel_rfl)) k2 bel lt2) trodAll_mk0))), rfl, bel.frame _, fun h => by cases h⟩

theorem over : Rows.fnExactCountBreaksRow.holds Try.pinned (OpenSpec.ofChange Rows.fnExactCountBreaksSpec) :=
  OpenClaim.holds_of_wide 6 Try.f6 rfl rfl rfl rfl rfl rfl rfl ⟨rfl, rfl, rfl, rfl, rfl⟩ rfl rfl rfl rfl rfl (by kernel_rfl) Try.func6 (by kernel_rfl)
    (of_decide_eq_true (by kernel_rfl)) (by unfold Func.isWrapper; first | (rw [if_pos (by decide +kernel)]; kernel_rfl) | (rw [if_neg (by decide +kernel)]; exact ⟨rfl, rfl⟩))
    (fun os started H enc _ => lifted os started H enc)

/-- The statement. -/
theorem proved : Rows.FnExactCountBreaksSaid := over
#print axioms proved
end Go.Proofs.Ytdcegepkgcflpaa.lawCountBreaks
