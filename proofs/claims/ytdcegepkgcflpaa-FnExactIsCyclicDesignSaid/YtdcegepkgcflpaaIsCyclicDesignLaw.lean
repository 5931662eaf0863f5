/-
  The program's IsCyclicDesign returns what the reference's returns: the statement FnExactIsCyclicDesignSaid. Conditions: none.
-/
import Derived.Test.YtdcegepkgcflpaaRows
import Derived.Test.YtdcegepkgcflpaaCyc
import Derived.Test.YtdcegepkgcflpaaDFrame
import Derived.Test.YtdcegepkgcflpaaDsg
import Derived.Deep.RegionHeld3
namespace Go.Proofs.Ytdcegepkgcflpaa.lawIsCyclicDesign
open Go.ChangeShapes Go.WideShapes Go.ChangeAt Go.RowKit Go.Deep
set_option linter.unusedVariables false
set_option linter.unusedSimpArgs false

theorem own : ownKnob Try.prog.godebug = none := by kernel_rfl
theorem laidOut : laidOutB Try.prog = true := by kernel_rfl

set_option maxHeartbeats 400000 in
theorem walkOut0 (w : World) (x0 : Int) (hb0 : -9223372036854775808 ≤ x0 ∧ x0 ≤ 9223372036854775807) (A0 : Option Addr) (n0 c0 : Nat) (R0 : Spine) (xs0 : List (List Int)) (hr0 : RdM w A0 c0 R0 xs0) (hn0 : xs0.length = n0) (hw0 : WfM xs0) (hz : 1048576 < ((n0 : Int) + (tot xs0 : Nat))) :
    Calls Try.prog 4 #[.agg #[.int .i64 x0, .slice A0 n0 c0]] w fun e w' => e = .returned (.bool true) ∧ Below w.heap.size w w' := by
  have HR0 := Lib.hid hr0
  have HN0 := Lib.hid hn0
  have hm0 : n0 ≤ 9223372036854775807 := by have h1 := hr0.le; have h2 := hr0.cap; unfold maxLen at h2; omega
  clear hr0 hn0
  go_enter Try.func4, Try.ntmps4
  go_wp2_with fail
  have hb : Below w.heap.size w (w.alloc (.cells #[.int .i64 x0, .slice A0 n0 c0] 33)) := (below_boxed _ _)
  have qd0 : w.heap.size < (w.alloc (.cells #[.int .i64 x0, .slice A0 n0 c0] 33)).heap.size := by simp <;> omega
  have bd00_1 : (w.alloc (.cells #[.int .i64 x0, .slice A0 n0 c0] 33)).cell? ⟨w.heap.size, 0, none⟩ = some (.int .i64 x0) := by simp [go_sem]
  have bd01_1 : (w.alloc (.cells #[.int .i64 x0, .slice A0 n0 c0] 33)).cell? ⟨w.heap.size, 1, none⟩ = some (.slice A0 n0 c0) := by simp [go_sem]
  generalize (w.alloc (.cells #[.int .i64 x0, .slice A0 n0 c0] 33)) = w1 at *
  have z1 : w.heap.size ≤ w1.heap.size := hb.size
  have B1 : Below w.heap.size w w1 := (hb.mono (by omega))
  clear hb
  go_wp2_with fail
  refine (szD_out w1 x0 A0 n0 c0 R0 xs0 (1048576) ((HR0.out).below B1) (HN0.out) (by omega) (by omega) (by omega)).mono ?_
  rintro e w2 ⟨rfl, hb⟩
  have z2 : w1.heap.size ≤ w2.heap.size := hb.size
  have B2 : Below w.heap.size w w2 := B1.trans (hb.mono (by omega))
  have bd00_2 := (hb.cell (p := ⟨w.heap.size, 0, none⟩) (by show w.heap.size < _; omega)).trans bd00_1
  clear bd00_1
  have bd01_2 := (hb.cell (p := ⟨w.heap.size, 1, none⟩) (by show w.heap.size < _; omega)).trans bd01_1
  clear bd01_1
  clear hb
  go_wp2
  go_ret
  exact ⟨rfl, B2⟩

set_option maxHeartbeats 4000000 in
set_option maxRecDepth 100000 in
theorem walkIn (w : World) (x0 : Int) (hb0 : -9223372036854775808 ≤ x0 ∧ x0 ≤ 9223372036854775807) (A0 : Option Addr) (n0 c0 : Nat) (R0 : Spine) (xs0 : List (List Int)) (hr0 : RdM w A0 c0 R0 xs0) (hn0 : xs0.length = n0) (hw0 : WfM xs0) (hz0 : ((n0 : Int) + (tot xs0 : Nat)) ≤ 1048576) :
    Calls Try.prog 4 #[.agg #[.int .i64 x0, .slice A0 n0 c0]] w fun e w' => e = .returned (.bool true) ∧ Below w.heap.size w w' := by
  have HT0 : tot xs0 ≤ 1048576 := by omega
  have HR0 := Lib.hid hr0
  have HN0 := Lib.hid hn0
  have hm0 : n0 ≤ 9223372036854775807 := by have h1 := hr0.le; have h2 := hr0.cap; unfold maxLen at h2; omega
  clear hr0 hn0
  go_enter Try.func4, Try.ntmps4
  go_wp2_with fail
  have hb : Below w.heap.size w (w.alloc (.cells #[.int .i64 x0, .slice A0 n0 c0] 33)) := (below_boxed _ _)
  have qd0 : w.heap.size < (w.alloc (.cells #[.int .i64 x0, .slice A0 n0 c0] 33)).heap.size := by simp <;> omega
  have bd00_1 : (w.alloc (.cells #[.int .i64 x0, .slice A0 n0 c0] 33)).cell? ⟨w.heap.size, 0, none⟩ = some (.int .i64 x0) := by simp [go_sem]
  have bd01_1 : (w.alloc (.cells #[.int .i64 x0, .slice A0 n0 c0] 33)).cell? ⟨w.heap.size, 1, none⟩ = some (.slice A0 n0 c0) := by simp [go_sem]
  generalize (w.alloc (.cells #[.int .i64 x0, .slice A0 n0 c0] 33)) = w1 at *
  have z1 : w.heap.size ≤ w1.heap.size := hb.size
  have B1 : Below w.heap.size w w1 := (hb.mono (by omega))
  clear hb
  go_wp2_with fail
  refine (szD_in w1 x0 A0 n0 c0 R0 xs0 (1048576) ((HR0.out).below B1) (HN0.out) (by omega) (by omega)).mono ?_
  rintro e w2 ⟨rfl, hb⟩
  have z2 : w1.heap.size ≤ w2.heap.size := hb.size
  have B2 : Below w.heap.size w w2 := B1.trans (hb.mono (by omega))
  have bd00_2 := (hb.cell (p := ⟨w.heap.size, 0, none⟩) (by show w.heap.size < _; omega)).trans bd00_1
  clear bd00_1
  have bd01_2 := (hb.cell (p := ⟨w.heap.size, 1, none⟩) (by show w.heap.size < _; omega)).trans bd01_1
  clear bd01_1
  clear hb
  go_wp2_with fail
  refine (toD w2 x0 A0 n0 c0 R0 xs0 ((HR0.out).below B2) (HN0.out) (by omega) (fun k hk => by have := row_small HT0 k (by rw [HN0.out]; exact hk); omega)).mono ?_
  rintro e w3 ⟨⟨p0A, p0R, rfl, ho⟩, hb⟩
  have z3 : w2.heap.size ≤ w3.heap.size := hb.size
  have B3 : Below w.heap.size w w3 := B2.trans (hb.mono (by omega))
  have bd00_3 := (hb.cell (p := ⟨w.heap.size, 0, none⟩) (by show w.heap.size < _; omega)).trans bd00_2
  clear bd00_2
  have bd01_3 := (hb.cell (p := ⟨w.heap.size, 1, none⟩) (by show w.heap.size < _; omega)).trans bd01_2
  clear bd01_2
  clear hb
  have p0_3 := Lib.hid ho.in_
  clear ho
  go_wp2_with fail
  refine (specIsCyclicDesign_c w3 x0 hb0 p0A n0 n0 p0R xs0 p0_3.out.own.rd (HN0.out) hw0 (by omega)).mono ?_
  rintro e w4 ⟨rfl, hb⟩
  have z4 : w3.heap.size ≤ w4.heap.size := hb.size
  have B4 : Below w.heap.size w w4 := B3.trans (hb.mono (by omega))
  have p0_4 := Lib.hid (p0_3.out.step (w' := w4) (fun k h1 h2 => hb.block k (by omega)))
  clear p0_3
  have bd00_4 := (hb.cell (p := ⟨w.heap.size, 0, none⟩) (by show w.heap.size < _; omega)).trans bd00_3
  clear bd00_3
  have bd01_4 := (hb.cell (p := ⟨w.heap.size, 1, none⟩) (by show w.heap.size < _; omega)).trans bd01_3
  clear bd01_3
  clear hb
  go_wp2_with fail
  refine (toD w4 x0 A0 n0 c0 R0 xs0 ((HR0.out).below B4) (HN0.out) (by omega) (fun k hk => by have := row_small HT0 k (by rw [HN0.out]; exact hk); omega)).mono ?_
  rintro e w5 ⟨⟨x0A, x0R, rfl, ho⟩, hb⟩
  have z5 : w4.heap.size ≤ w5.heap.size := hb.size
  have B5 : Below w.heap.size w w5 := B4.trans (hb.mono (by omega))
  have p0_5 := Lib.hid (p0_4.out.step (w' := w5) (fun k h1 h2 => hb.block k (by omega)))
  clear p0_4
  have bd00_5 := (hb.cell (p := ⟨w.heap.size, 0, none⟩) (by show w.heap.size < _; omega)).trans bd00_4
  clear bd00_4
  have bd01_5 := (hb.cell (p := ⟨w.heap.size, 1, none⟩) (by show w.heap.size < _; omega)).trans bd01_4
  clear bd01_4
  clear hb
  have x0_5 := Lib.hid ho.in_
  clear ho
  have hb : Below w5.heap.size w5 (w5.alloc (.cells #[.int .i64 x0, .slice x0A n0 n0] 25)) := below_boxed _ _
  have qx0 : w5.heap.size < (w5.alloc (.cells #[.int .i64 x0, .slice x0A n0 n0] 25)).heap.size := by simp
  have bx00_6 : (w5.alloc (.cells #[.int .i64 x0, .slice x0A n0 n0] 25)).cell? ⟨w5.heap.size, 0, none⟩ = some (.int .i64 x0) := by simp [go_sem]
  have bx01_6 : (w5.alloc (.cells #[.int .i64 x0, .slice x0A n0 n0] 25)).cell? ⟨w5.heap.size, 1, none⟩ = some (.slice x0A n0 n0) := by simp [go_sem]
  have ed00 := (hb.cell (p := ⟨w.heap.size, 0, none⟩) (by show w.heap.size < _; omega)).trans bd00_5
  have ed01 := (hb.cell (p := ⟨w.heap.size, 1, none⟩) (by show w.heap.size < _; omega)).trans bd01_5
  go_wp2_with fail
  clear ed00 ed01
  generalize (w5.alloc (.cells #[.int .i64 x0, .slice x0A n0 n0] 25)) = w6 at *
  have z6 : w5.heap.size ≤ w6.heap.size := hb.size
  have B6 : Below w.heap.size w w6 := B5.trans (hb.mono (by omega))
  have p0_6 := Lib.hid (p0_5.out.step (w' := w6) (fun k h1 h2 => hb.block k (by omega)))
  clear p0_5
  have x0_6 := Lib.hid (x0_5.out.step (w' := w6) (fun k h1 h2 => hb.block k (by omega)))
  clear x0_5
  have bd00_6 := (hb.cell (p := ⟨w.heap.size, 0, none⟩) (by show w.heap.size < _; omega)).trans bd00_5
  clear bd00_5
  have bd01_6 := (hb.cell (p := ⟨w.heap.size, 1, none⟩) (by show w.heap.size < _; omega)).trans bd01_5
  clear bd01_5
  clear hb
  go_wp2_with fail
  refine (implIsCyclicDesign_c w6 x0 hb0 x0A n0 n0 x0R xs0 x0_6.out.own.rd (HN0.out) hw0 (by omega)).mono ?_
  rintro e w7 ⟨rfl, hb⟩
  have z7 : w6.heap.size ≤ w7.heap.size := hb.size
  have B7 : Below w.heap.size w w7 := B6.trans (hb.mono (by omega))
  have p0_7 := Lib.hid (p0_6.out.step (w' := w7) (fun k h1 h2 => hb.block k (by omega)))
  clear p0_6
  have x0_7 := Lib.hid (x0_6.out.step (w' := w7) (fun k h1 h2 => hb.block k (by omega)))
  clear x0_6
  have bd00_7 := (hb.cell (p := ⟨w.heap.size, 0, none⟩) (by show w.heap.size < _; omega)).trans bd00_6
  clear bd00_6
  have bd01_7 := (hb.cell (p := ⟨w.heap.size, 1, none⟩) (by show w.heap.size < _; omega)).trans bd01_6
  clear bd01_6
  have bx00_7 := (hb.cell (p := ⟨w5.heap.size, 0, none⟩) (by show w5.heap.size < _; omega)).trans bx00_6
  clear bx00_6
  have bx01_7 := (hb.cell (p := ⟨w5.heap.size, 1, none⟩) (by show w5.heap.size < _; omega)).trans bx01_6
  clear bx01_6
  clear hb
  go_wp2_with fail
  have HE := Lib.hid (fun (w' : World) (hb : Below w7.heap.size w7 w') => toD w' x0 A0 n0 c0 R0 xs0 ((HR0.out).below (B7.trans (hb.mono (by omega)))) (HN0.out) (by omega) (fun k hk => by have := row_small HT0 k (by rw [HN0.out]; exact hk); omega))
  have ck0 := Lib.hid (fun (w' : World) (hb : Below w7.heap.size w7 w') => (hb.cell (p := ⟨w.heap.size, 0, none⟩) (by show w.heap.size < w7.heap.size; omega)).trans bd00_7)
  have ck1 := Lib.hid (fun (w' : World) (hb : Below w7.heap.size w7 w') => (hb.cell (p := ⟨w.heap.size, 1, none⟩) (by show w.heap.size < w7.heap.size; omega)).trans bd01_7)
  have ck2 := Lib.hid (fun (w' : World) (hb : Below w7.heap.size w7 w') => (hb.cell (p := ⟨w5.heap.size, 0, none⟩) (by show w5.heap.size < w7.heap.size; omega)).trans bx00_7)
  have ck3 := Lib.hid (fun (w' : World) (hb : Below w7.heap.size w7 w') => (hb.cell (p := ⟨w5.heap.size, 1, none⟩) (by show w5.heap.size < w7.heap.size; omega)).trans bx01_7)
  have hS := Lib.hid (Below.refl w7.heap.size w7)
  go_region_held3 (fun w' => Below w7.heap.size w7 w' ∧ w'.cell? ⟨w.heap.size, 0, none⟩ = some (.int .i64 x0) ∧ w'.cell? ⟨w.heap.size, 1, none⟩ = some (.slice A0 n0 c0) ∧ w'.cell? ⟨w5.heap.size, 0, none⟩ = some (.int .i64 x0) ∧ w'.cell? ⟨w5.heap.size, 1, none⟩ = some (.slice x0A n0 n0)) (first | exact ⟨hS.out, ck0.out _ hS.out, ck1.out _ hS.out, ck2.out _ hS.out, ck3.out _ hS.out⟩ | exact ⟨below_drewN hS.out 1, ck0.out _ (below_drewN hS.out 1), ck1.out _ (below_drewN hS.out 1), ck2.out _ (below_drewN hS.out 1), ck3.out _ (below_drewN hS.out 1)⟩)
    (first
      | (go_at_call 19; refine (HE.out _ (below_drewN hS.out 1)).mono ?_; rintro e wy ⟨⟨yA, yR, rfl, ho⟩, hb⟩; have hy := Lib.hid ho; have hS := Lib.hid ((below_drewN hS.out 1).trans (hb.mono hS.out.size)); have h1y := Lib.hid hb; clear ho hb)
      | (go_at_call 12; refine (eqD_v _ x0 (x0_7.out.step (w' := wy) (fun k h1 h2 => hS.out.block k (by omega))).own.rd hy.out.rd (HN0.out) (by have := HN0.out; omega) (fun k hk => by have := row_small HT0 k hk; omega)).mono ?_; rintro e w8 ⟨rfl, hb⟩; have hS1 := hS; have hS := Lib.hid (hS1.out.trans (hb.mono hS1.out.size)); clear hb))
  have hb := hS.out
  clear hS HE hy h1y ck0 ck1 ck2 ck3
  have z8 : w7.heap.size ≤ w8.heap.size := hb.size
  have B8 : Below w.heap.size w w8 := B7.trans (hb.mono (by omega))
  have p0_8 := Lib.hid (p0_7.out.step (w' := w8) (fun k h1 h2 => hb.block k (by omega)))
  clear p0_7
  have x0_8 := Lib.hid (x0_7.out.step (w' := w8) (fun k h1 h2 => hb.block k (by omega)))
  clear x0_7
  have bd00_8 := (hb.cell (p := ⟨w.heap.size, 0, none⟩) (by show w.heap.size < _; omega)).trans bd00_7
  clear bd00_7
  have bd01_8 := (hb.cell (p := ⟨w.heap.size, 1, none⟩) (by show w.heap.size < _; omega)).trans bd01_7
  clear bd01_7
  have bx00_8 := (hb.cell (p := ⟨w5.heap.size, 0, none⟩) (by show w5.heap.size < _; omega)).trans bx00_7
  clear bx00_7
  have bx01_8 := (hb.cell (p := ⟨w5.heap.size, 1, none⟩) (by show w5.heap.size < _; omega)).trans bx01_7
  clear bx01_7
  clear hb
  go_wp2
  go_ret
  exact ⟨rfl, B8⟩

theorem walk (w : World) (x0 : Int) (hb0 : -9223372036854775808 ≤ x0 ∧ x0 ≤ 9223372036854775807) (A0 : Option Addr) (n0 c0 : Nat) (R0 : Spine) (xs0 : List (List Int)) (hr0 : RdM w A0 c0 R0 xs0) (hn0 : xs0.length = n0) (hw0 : WfM xs0) :
    Calls Try.prog 4 #[.agg #[.int .i64 x0, .slice A0 n0 c0]] w fun e w' => e = .returned (.bool true) ∧ Below w.heap.size w w' := by
  rcases Int.lt_or_le 1048576 (((n0 : Int) + (tot xs0 : Nat))) with h0 | h0
  · exact walkOut0 w x0 hb0 A0 n0 c0 R0 xs0 hr0 hn0 hw0  h0
  exact walkIn w x0 hb0 A0 n0 c0 R0 xs0 hr0 hn0 hw0 h0

set_option maxRecDepth 100000 in
theorem lifted (os : Os) (started : os.Started) (H : Type) (enc : TypeId × Value → H) :
    ReturnsInHanded {} Try.checked os 4 .any (Rows.fnExactIsCyclicDesignSpec.pre6 enc Try.prog Try.f4 Rows.fnExactIsCyclicDesignRow.domain false) (Rows.fnExactIsCyclicDesignSpec.post enc Try.prog Try.f4 false true false false) := by
  refine returnsInHanded_of_change (C := Try.checked) own started (by kernel_rfl) Try.func4
    (ChangeSpec.witness6 (enc := enc) (C := Try.checked) false ⟨#[], #[.agg #[.int .i64 0, .slice none 0 0]], []⟩ 8 (by kernel_rfl) (by kernel_rfl) (by kernel_rfl) (by kernel_rfl)) ?_
  intro W base args ds gs before hval0 hW hcnd _
  have hval : ∀ (j : Nat) t v, Try.f4.params[j]? = some t → args[j]? = some v → Value.okWide Try.prog W .any base t v := hval0
  have hW' := hW
  obtain ⟨p, q, hA0, hV, rfl, hfz, hnd⟩ := hW
  have hA : DataW.TrodAll enc Try.prog W 0 (fun _ => true) true Try.f4.params.toList args.toList ds p := hA0
  rw [Try.params4] at hA hval
  obtain ⟨v0, vs0, d0, ds0, p0, q0, hargs, rfl, rfl, h0, r0⟩ := trodAll_cons hA
  obtain ⟨rfl, rfl, rfl⟩ := trodAll_nil r0
  obtain rfl : args = #[v0] := by cases args; simp_all
  obtain ⟨rfl, rfl⟩ := trodVars_none hV
  have k0 := h0
  obtain ⟨x0, A0, n0, c0, R0, xs0, rfl, hb0, hr0, hn0, hw0⟩ := open_D (hval 0 33 v0 rfl rfl) h0
  have lt0 : ∀ x ∈ p0, x.block < W.heap.size := by obtain ⟨m, hm⟩ := k0; exact DataW.trod_lt m _ _ _ hm
  clear hA0 hval0
  refine (walk W x0 hb0 A0 n0 c0 R0 xs0 hr0 hn0 hw0).mono fun e W' ⟨he, bel⟩ => ?_
  subst he
  exact ⟨_, rfl, _, _, _, [], _, [], hW', trodAll_mk1 (shut_bool Try.underlying4 _), (trodAll_cons_mk (Below.trod laidOut (by kernel_rfl) (of_decide_eq_true (by kernel_rfl)) k0 bel lt0) trodAll_mk0), rfl, bel.frame _, fun h => by cases h⟩

theorem over : Rows.fnExactIsCyclicDesignRow.holds Try.pinned (OpenSpec.ofChange Rows.fnExactIsCyclicDesignSpec) :=
  OpenClaim.holds_of_wide 4 Try.f4 rfl rfl rfl rfl rfl rfl rfl ⟨rfl, rfl, rfl, rfl, rfl⟩ rfl rfl rfl rfl rfl (by kernel_rfl) Try.func4 (by kernel_rfl)
    (of_decide_eq_true (by kernel_rfl)) (by unfold Func.isWrapper; first | (rw [if_pos (by decide +kernel)]; kernel_rfl) | (rw [if_neg (by decide +kernel)]; exact ⟨rfl, rfl⟩))
    (fun os started H enc _ => lifted os started H enc)

/-- The statement. -/
theorem proved : Rows.FnExactIsCyclicDesignSaid := over
#print axioms proved
end Go.Proofs.Ytdcegepkgcflpaa.lawIsCyclicDesign
