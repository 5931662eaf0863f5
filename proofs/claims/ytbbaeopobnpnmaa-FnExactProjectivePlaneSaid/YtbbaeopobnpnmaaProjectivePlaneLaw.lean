/-
  The program's ProjectivePlane returns what the reference's returns: the statement FnExactProjectivePlaneSaid. Conditions: none.
-/
import Derived.Test.YtbbaeopobnpnmaaRows
import Derived.Test.YtbbaeopobnpnmaaPpJ
import Derived.Test.YtbbaeopobnpnmaaDFrame
import Derived.Test.YtbbaeopobnpnmaaDsg
import Derived.Deep.RegionHeld3
namespace Go.Proofs.Ytbbaeopobnpnmaa.lawProjectivePlane
open Go.ChangeShapes Go.WideShapes Go.ChangeAt Go.RowKit Go.Deep
set_option linter.unusedVariables false
set_option linter.unusedSimpArgs false

theorem own : ownKnob Try.prog.godebug = none := by kernel_rfl
theorem laidOut : laidOutB Try.prog = true := by kernel_rfl

set_option maxHeartbeats 4000000 in
set_option maxRecDepth 100000 in
theorem walkIn (w : World) (x0 : Int) (hb0 : -9223372036854775808 ≤ x0 ∧ x0 ≤ 9223372036854775807) :
    Calls Try.prog 5 #[.int .i64 x0] w fun e w' => e = .returned (.bool true) ∧ Below w.heap.size w w' := by
  have hsmall : (pjX x0).length ≤ 1048576 := (ProjectivePlane_small x0).1
  have HS : tot (pjX x0) ≤ 1048576 := (ProjectivePlane_small x0).2
  go_enter Try.func5, Try.ntmps5
  go_wp2_with fail
  refine (specProjectivePlane_c w x0 hb0).mono ?_
  rintro e w1 ⟨⟨w0A, w0n, w0c, w0R, rfl, w0hn, ho⟩, hb⟩
  have HL := Lib.hid w0hn
  have hsm : w0n ≤ 1048576 := by have := hsmall; have h2 := HL.out; omega
  clear w0hn
  have z1 : w.heap.size ≤ w1.heap.size := hb.size
  have B1 : Below w.heap.size w w1 := (hb.mono (by omega))
  clear hb
  have w0_1 := Lib.hid ho.in_
  clear ho
  have hb : Below w1.heap.size w1 (w1.alloc (.cells #[.int .i64 (pjP x0), .slice w0A w0n w0c] 29)) := below_boxed _ _
  have qw0 : w1.heap.size < (w1.alloc (.cells #[.int .i64 (pjP x0), .slice w0A w0n w0c] 29)).heap.size := by simp
  have bw00_2 : (w1.alloc (.cells #[.int .i64 (pjP x0), .slice w0A w0n w0c] 29)).cell? ⟨w1.heap.size, 0, none⟩ = some (.int .i64 (pjP x0)) := by simp [go_sem]
  have bw01_2 : (w1.alloc (.cells #[.int .i64 (pjP x0), .slice w0A w0n w0c] 29)).cell? ⟨w1.heap.size, 1, none⟩ = some (.slice w0A w0n w0c) := by simp [go_sem]
  go_wp2_with fail
  generalize (w1.alloc (.cells #[.int .i64 (pjP x0), .slice w0A w0n w0c] 29)) = w2 at *
  have z2 : w1.heap.size ≤ w2.heap.size := hb.size
  have B2 : Below w.heap.size w w2 := B1.trans (hb.mono (by omega))
  have w0_2 := Lib.hid (w0_1.out.step (w' := w2) (fun k h1 h2 => hb.block k (by omega)))
  clear w0_1
  clear hb
  go_wp2_with fail
  refine (implProjectivePlane_c w2 x0 hb0).mono ?_
  rintro e w3 ⟨⟨g0A, g0n, g0c, g0R, rfl, g0hn, ho⟩, hb⟩
  obtain rfl : w0n = g0n := HL.out.symm.trans g0hn
  clear g0hn
  have z3 : w2.heap.size ≤ w3.heap.size := hb.size
  have B3 : Below w.heap.size w w3 := B2.trans (hb.mono (by omega))
  have w0_3 := Lib.hid (w0_2.out.step (w' := w3) (fun k h1 h2 => hb.block k (by omega)))
  clear w0_2
  have bw00_3 := (hb.cell (p := ⟨w1.heap.size, 0, none⟩) (by show w1.heap.size < _; omega)).trans bw00_2
  clear bw00_2
  have bw01_3 := (hb.cell (p := ⟨w1.heap.size, 1, none⟩) (by show w1.heap.size < _; omega)).trans bw01_2
  clear bw01_2
  clear hb
  have g0_3 := Lib.hid ho.in_
  clear ho
  have hb : Below w3.heap.size w3 (w3.alloc (.cells #[.int .i64 (pjP x0), .slice g0A w0n g0c] 29)) := below_boxed _ _
  have qg0 : w3.heap.size < (w3.alloc (.cells #[.int .i64 (pjP x0), .slice g0A w0n g0c] 29)).heap.size := by simp
  have bg00_4 : (w3.alloc (.cells #[.int .i64 (pjP x0), .slice g0A w0n g0c] 29)).cell? ⟨w3.heap.size, 0, none⟩ = some (.int .i64 (pjP x0)) := by simp [go_sem]
  have bg01_4 : (w3.alloc (.cells #[.int .i64 (pjP x0), .slice g0A w0n g0c] 29)).cell? ⟨w3.heap.size, 1, none⟩ = some (.slice g0A w0n g0c) := by simp [go_sem]
  have ew00 := (hb.cell (p := ⟨w1.heap.size, 0, none⟩) (by show w1.heap.size < _; omega)).trans bw00_3
  have ew01 := (hb.cell (p := ⟨w1.heap.size, 1, none⟩) (by show w1.heap.size < _; omega)).trans bw01_3
  go_wp2_with fail
  clear ew00 ew01
  generalize (w3.alloc (.cells #[.int .i64 (pjP x0), .slice g0A w0n g0c] 29)) = w4 at *
  have z4 : w3.heap.size ≤ w4.heap.size := hb.size
  have B4 : Below w.heap.size w w4 := B3.trans (hb.mono (by omega))
  have w0_4 := Lib.hid (w0_3.out.step (w' := w4) (fun k h1 h2 => hb.block k (by omega)))
  clear w0_3
  have g0_4 := Lib.hid (g0_3.out.step (w' := w4) (fun k h1 h2 => hb.block k (by omega)))
  clear g0_3
  have bw00_4 := (hb.cell (p := ⟨w1.heap.size, 0, none⟩) (by show w1.heap.size < _; omega)).trans bw00_3
  clear bw00_3
  have bw01_4 := (hb.cell (p := ⟨w1.heap.size, 1, none⟩) (by show w1.heap.size < _; omega)).trans bw01_3
  clear bw01_3
  clear hb
  go_wp2_with fail
  refine (eqD_v w4 (pjP x0) g0_4.out.own.rd w0_4.out.own.rd (HL.out) (by have := HL.out; omega) (fun k hk => by have := row_small HS k hk; omega)).mono ?_
  rintro e w5 ⟨rfl, hb⟩
  have z5 : w4.heap.size ≤ w5.heap.size := hb.size
  have B5 : Below w.heap.size w w5 := B4.trans (hb.mono (by omega))
  have w0_5 := Lib.hid (w0_4.out.step (w' := w5) (fun k h1 h2 => hb.block k (by omega)))
  clear w0_4
  have g0_5 := Lib.hid (g0_4.out.step (w' := w5) (fun k h1 h2 => hb.block k (by omega)))
  clear g0_4
  have bw00_5 := (hb.cell (p := ⟨w1.heap.size, 0, none⟩) (by show w1.heap.size < _; omega)).trans bw00_4
  clear bw00_4
  have bw01_5 := (hb.cell (p := ⟨w1.heap.size, 1, none⟩) (by show w1.heap.size < _; omega)).trans bw01_4
  clear bw01_4
  have bg00_5 := (hb.cell (p := ⟨w3.heap.size, 0, none⟩) (by show w3.heap.size < _; omega)).trans bg00_4
  clear bg00_4
  have bg01_5 := (hb.cell (p := ⟨w3.heap.size, 1, none⟩) (by show w3.heap.size < _; omega)).trans bg01_4
  clear bg01_4
  clear hb
  go_wp2_with fail
  refine (markD_v w5 (pjP x0) (1) g0_5.out (HL.out) (by omega) (by omega)).mono ?_
  rintro e w6 ⟨rfl, ⟨g0Y, ho, g0hM⟩, hb⟩
  have z6 : w5.heap.size ≤ w6.heap.size := hb.size
  have B6 : Below w.heap.size w w6 := B5.trans (hb.below (by omega) (by omega))
  have w0_6 := Lib.hid (w0_5.out.step (w' := w6) (fun k h1 h2 => hb.block k (by omega) (by first | exact Or.inl (by omega) | exact Or.inr (by omega))))
  clear w0_5
  have bw00_6 := (World.cell?_of_block (a := ⟨w1.heap.size, 0, none⟩) (hb.block (w1.heap.size) (by omega) (by first | exact Or.inl (by omega) | exact Or.inr (by omega)))).trans bw00_5
  clear bw00_5
  have bw01_6 := (World.cell?_of_block (a := ⟨w1.heap.size, 1, none⟩) (hb.block (w1.heap.size) (by omega) (by first | exact Or.inl (by omega) | exact Or.inr (by omega)))).trans bw01_5
  clear bw01_5
  have bg00_6 := (World.cell?_of_block (a := ⟨w3.heap.size, 0, none⟩) (hb.block (w3.heap.size) (by omega) (by first | exact Or.inl (by omega) | exact Or.inr (by omega)))).trans bg00_5
  clear bg00_5
  have bg01_6 := (World.cell?_of_block (a := ⟨w3.heap.size, 1, none⟩) (hb.block (w3.heap.size) (by omega) (by first | exact Or.inl (by omega) | exact Or.inr (by omega)))).trans bg01_5
  clear bg01_5
  clear hb
  have g0_6 := Lib.hid ho
  clear ho g0_5
  have g0HM := Lib.hid g0hM
  clear g0hM
  go_wp2_with fail
  refine (heldD_v w6 (pjP x0) (1) g0_6.out.own.rd (g0HM.out) (HL.out) (by omega) (by omega)).mono ?_
  rintro e w7 ⟨rfl, hb⟩
  have z7 : w6.heap.size ≤ w7.heap.size := hb.size
  have B7 : Below w.heap.size w w7 := B6.trans (hb.mono (by omega))
  have w0_7 := Lib.hid (w0_6.out.step (w' := w7) (fun k h1 h2 => hb.block k (by omega)))
  clear w0_6
  have g0_7 := Lib.hid (g0_6.out.step (w' := w7) (fun k h1 h2 => hb.block k (by omega)))
  clear g0_6
  have bw00_7 := (hb.cell (p := ⟨w1.heap.size, 0, none⟩) (by show w1.heap.size < _; omega)).trans bw00_6
  clear bw00_6
  have bw01_7 := (hb.cell (p := ⟨w1.heap.size, 1, none⟩) (by show w1.heap.size < _; omega)).trans bw01_6
  clear bw01_6
  have bg00_7 := (hb.cell (p := ⟨w3.heap.size, 0, none⟩) (by show w3.heap.size < _; omega)).trans bg00_6
  clear bg00_6
  have bg01_7 := (hb.cell (p := ⟨w3.heap.size, 1, none⟩) (by show w3.heap.size < _; omega)).trans bg01_6
  clear bg01_6
  clear hb
  go_wp2_with fail
  refine (implProjectivePlane_c w7 x0 hb0).mono ?_
  rintro e w8 ⟨⟨h0A, h0n, h0c, h0R, rfl, h0hn, ho⟩, hb⟩
  obtain rfl : w0n = h0n := HL.out.symm.trans h0hn
  clear h0hn
  have z8 : w7.heap.size ≤ w8.heap.size := hb.size
  have B8 : Below w.heap.size w w8 := B7.trans (hb.mono (by omega))
  have w0_8 := Lib.hid (w0_7.out.step (w' := w8) (fun k h1 h2 => hb.block k (by omega)))
  clear w0_7
  have g0_8 := Lib.hid (g0_7.out.step (w' := w8) (fun k h1 h2 => hb.block k (by omega)))
  clear g0_7
  have bw00_8 := (hb.cell (p := ⟨w1.heap.size, 0, none⟩) (by show w1.heap.size < _; omega)).trans bw00_7
  clear bw00_7
  have bw01_8 := (hb.cell (p := ⟨w1.heap.size, 1, none⟩) (by show w1.heap.size < _; omega)).trans bw01_7
  clear bw01_7
  have bg00_8 := (hb.cell (p := ⟨w3.heap.size, 0, none⟩) (by show w3.heap.size < _; omega)).trans bg00_7
  clear bg00_7
  have bg01_8 := (hb.cell (p := ⟨w3.heap.size, 1, none⟩) (by show w3.heap.size < _; omega)).trans bg01_7
  clear bg01_7
  clear hb
  have h0_8 := Lib.hid ho.in_
  clear ho
  have hb : Below w8.heap.size w8 (w8.alloc (.cells #[.int .i64 (pjP x0), .slice h0A w0n h0c] 29)) := below_boxed _ _
  have qh0 : w8.heap.size < (w8.alloc (.cells #[.int .i64 (pjP x0), .slice h0A w0n h0c] 29)).heap.size := by simp
  have bh00_9 : (w8.alloc (.cells #[.int .i64 (pjP x0), .slice h0A w0n h0c] 29)).cell? ⟨w8.heap.size, 0, none⟩ = some (.int .i64 (pjP x0)) := by simp [go_sem]
  have bh01_9 : (w8.alloc (.cells #[.int .i64 (pjP x0), .slice h0A w0n h0c] 29)).cell? ⟨w8.heap.size, 1, none⟩ = some (.slice h0A w0n h0c) := by simp [go_sem]
  have ew00 := (hb.cell (p := ⟨w1.heap.size, 0, none⟩) (by show w1.heap.size < _; omega)).trans bw00_8
  have ew01 := (hb.cell (p := ⟨w1.heap.size, 1, none⟩) (by show w1.heap.size < _; omega)).trans bw01_8
  have eg00 := (hb.cell (p := ⟨w3.heap.size, 0, none⟩) (by show w3.heap.size < _; omega)).trans bg00_8
  have eg01 := (hb.cell (p := ⟨w3.heap.size, 1, none⟩) (by show w3.heap.size < _; omega)).trans bg01_8
  go_wp2_with fail
  clear ew00 ew01
  clear eg00 eg01
  generalize (w8.alloc (.cells #[.int .i64 (pjP x0), .slice h0A w0n h0c] 29)) = w9 at *
  have z9 : w8.heap.size ≤ w9.heap.size := hb.size
  have B9 : Below w.heap.size w w9 := B8.trans (hb.mono (by omega))
  have w0_9 := Lib.hid (w0_8.out.step (w' := w9) (fun k h1 h2 => hb.block k (by omega)))
  clear w0_8
  have g0_9 := Lib.hid (g0_8.out.step (w' := w9) (fun k h1 h2 => hb.block k (by omega)))
  clear g0_8
  have h0_9 := Lib.hid (h0_8.out.step (w' := w9) (fun k h1 h2 => hb.block k (by omega)))
  clear h0_8
  have bw00_9 := (hb.cell (p := ⟨w1.heap.size, 0, none⟩) (by show w1.heap.size < _; omega)).trans bw00_8
  clear bw00_8
  have bw01_9 := (hb.cell (p := ⟨w1.heap.size, 1, none⟩) (by show w1.heap.size < _; omega)).trans bw01_8
  clear bw01_8
  have bg00_9 := (hb.cell (p := ⟨w3.heap.size, 0, none⟩) (by show w3.heap.size < _; omega)).trans bg00_8
  clear bg00_8
  have bg01_9 := (hb.cell (p := ⟨w3.heap.size, 1, none⟩) (by show w3.heap.size < _; omega)).trans bg01_8
  clear bg01_8
  clear hb
  go_wp2_with fail
  refine (eqD_v w9 (pjP x0) h0_9.out.own.rd w0_9.out.own.rd (HL.out) (by have := HL.out; omega) (fun k hk => by have := row_small HS k hk; omega)).mono ?_
  rintro e w10 ⟨rfl, hb⟩
  have z10 : w9.heap.size ≤ w10.heap.size := hb.size
  have B10 : Below w.heap.size w w10 := B9.trans (hb.mono (by omega))
  have w0_10 := Lib.hid (w0_9.out.step (w' := w10) (fun k h1 h2 => hb.block k (by omega)))
  clear w0_9
  have g0_10 := Lib.hid (g0_9.out.step (w' := w10) (fun k h1 h2 => hb.block k (by omega)))
  clear g0_9
  have h0_10 := Lib.hid (h0_9.out.step (w' := w10) (fun k h1 h2 => hb.block k (by omega)))
  clear h0_9
  have bw00_10 := (hb.cell (p := ⟨w1.heap.size, 0, none⟩) (by show w1.heap.size < _; omega)).trans bw00_9
  clear bw00_9
  have bw01_10 := (hb.cell (p := ⟨w1.heap.size, 1, none⟩) (by show w1.heap.size < _; omega)).trans bw01_9
  clear bw01_9
  have bg00_10 := (hb.cell (p := ⟨w3.heap.size, 0, none⟩) (by show w3.heap.size < _; omega)).trans bg00_9
  clear bg00_9
  have bg01_10 := (hb.cell (p := ⟨w3.heap.size, 1, none⟩) (by show w3.heap.size < _; omega)).trans bg01_9
  clear bg01_9
  have bh00_10 := (hb.cell (p := ⟨w8.heap.size, 0, none⟩) (by show w8.heap.size < _; omega)).trans bh00_9
  clear bh00_9
  have bh01_10 := (hb.cell (p := ⟨w8.heap.size, 1, none⟩) (by show w8.heap.size < _; omega)).trans bh01_9
  clear bh01_9
  clear hb
  go_wp2_with fail
  refine (heldD_v w10 (pjP x0) (1) g0_10.out.own.rd (g0HM.out) (HL.out) (by omega) (by omega)).mono ?_
  rintro e w11 ⟨rfl, hb⟩
  have z11 : w10.heap.size ≤ w11.heap.size := hb.size
  have B11 : Below w.heap.size w w11 := B10.trans (hb.mono (by omega))
  have w0_11 := Lib.hid (w0_10.out.step (w' := w11) (fun k h1 h2 => hb.block k (by omega)))
  clear w0_10
  have g0_11 := Lib.hid (g0_10.out.step (w' := w11) (fun k h1 h2 => hb.block k (by omega)))
  clear g0_10
  have h0_11 := Lib.hid (h0_10.out.step (w' := w11) (fun k h1 h2 => hb.block k (by omega)))
  clear h0_10
  have bw00_11 := (hb.cell (p := ⟨w1.heap.size, 0, none⟩) (by show w1.heap.size < _; omega)).trans bw00_10
  clear bw00_10
  have bw01_11 := (hb.cell (p := ⟨w1.heap.size, 1, none⟩) (by show w1.heap.size < _; omega)).trans bw01_10
  clear bw01_10
  have bg00_11 := (hb.cell (p := ⟨w3.heap.size, 0, none⟩) (by show w3.heap.size < _; omega)).trans bg00_10
  clear bg00_10
  have bg01_11 := (hb.cell (p := ⟨w3.heap.size, 1, none⟩) (by show w3.heap.size < _; omega)).trans bg01_10
  clear bg01_10
  have bh00_11 := (hb.cell (p := ⟨w8.heap.size, 0, none⟩) (by show w8.heap.size < _; omega)).trans bh00_10
  clear bh00_10
  have bh01_11 := (hb.cell (p := ⟨w8.heap.size, 1, none⟩) (by show w8.heap.size < _; omega)).trans bh01_10
  clear bh01_10
  clear hb
  go_wp2
  go_ret
  exact ⟨rfl, B11⟩

theorem walk (w : World) (x0 : Int) (hb0 : -9223372036854775808 ≤ x0 ∧ x0 ≤ 9223372036854775807) :
    Calls Try.prog 5 #[.int .i64 x0] w fun e w' => e = .returned (.bool true) ∧ Below w.heap.size w w' := by
  exact walkIn w x0 hb0 

set_option maxRecDepth 100000 in
theorem lifted (os : Os) (started : os.Started) (H : Type) (enc : TypeId × Value → H) :
    ReturnsInHanded {} Try.checked os 5 .any (Rows.fnExactProjectivePlaneSpec.pre6 enc Try.prog Try.f5 Rows.fnExactProjectivePlaneRow.domain false) (Rows.fnExactProjectivePlaneSpec.post enc Try.prog Try.f5 false true false false) := by
  refine returnsInHanded_of_change (C := Try.checked) own started (by kernel_rfl) Try.func5
    (ChangeSpec.witness6 (enc := enc) (C := Try.checked) false ⟨#[], #[.int .i64 0], []⟩ 8 (by kernel_rfl) (by kernel_rfl) (by kernel_rfl) (by kernel_rfl)) ?_
  intro W base args ds gs before hval0 hW hcnd _
  have hval : ∀ (j : Nat) t v, Try.f5.params[j]? = some t → args[j]? = some v → Value.okWide Try.prog W .any base t v := hval0
  have hW' := hW
  obtain ⟨p, q, hA0, hV, rfl, hfz, hnd⟩ := hW
  have hA : DataW.TrodAll enc Try.prog W 0 (fun _ => true) true Try.f5.params.toList args.toList ds p := hA0
  rw [Try.params5] at hA hval
  obtain ⟨v0, vs0, d0, ds0, p0, q0, hargs, rfl, rfl, h0, r0⟩ := trodAll_cons hA
  obtain ⟨rfl, rfl, rfl⟩ := trodAll_nil r0
  obtain rfl : args = #[v0] := by cases args; simp_all
  obtain ⟨rfl, rfl⟩ := trodVars_none hV
  have k0 := h0
  have lt0 : ∀ x ∈ p0, x.block < W.heap.size := by obtain ⟨m, hm⟩ := k0; exact DataW.trod_lt m _ _ _ hm
  obtain ⟨x0, rfl, e0, _, hwf0⟩ := open_int Try.underlying2 (hval 0 2 v0 rfl rfl) h0
  have hb0 := wf_b64 hwf0
  clear hA0 hval0
  refine (walk W x0 hb0).mono fun e W' ⟨he, bel⟩ => ?_
  subst he
  exact ⟨_, rfl, _, _, _, [], _, [], hW', trodAll_mk1 (shut_bool Try.underlying4 _), (trodAll_cons_mk (Below.trod laidOut (by kernel_rfl) (of_decide_eq_true (by kernel_rfl)) k0 bel lt0) trodAll_mk0), rfl, bel.frame _, fun h => by cases h⟩

theorem over : Rows.fnExactProjectivePlaneRow.holds Try.pinned (OpenSpec.ofChange Rows.fnExactProjectivePlaneSpec) :=
  OpenClaim.holds_of_wide 5 Try.f5 rfl rfl rfl rfl rfl rfl rfl ⟨rfl, rfl, rfl, rfl, rfl⟩ rfl rfl rfl rfl rfl (by kernel_rfl) Try.func5 (by kernel_rfl)
    (of_decide_eq_true (by kernel_rfl)) (by unfold Func.isWrapper; first | (rw [if_pos (by decide +kernel)]; kernel_rfl) | (rw [if_neg (by decide +kernel)]; exact ⟨rfl, rfl⟩))
    (fun os started H enc _ => lifted os started H enc)

/-- The statement. -/
theorem proved : Rows.FnExactProjectivePlaneSaid := over
#print axioms proved
end Go.Proofs.Ytbbaeopobnpnmaa.lawProjectivePlane
