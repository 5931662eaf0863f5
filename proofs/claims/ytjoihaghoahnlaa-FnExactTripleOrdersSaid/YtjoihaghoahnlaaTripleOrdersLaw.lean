/-
  The program's TripleOrders returns what the reference's returns: the statement FnExactTripleOrdersSaid. Conditions: none.
-/
import Derived.Test.YtjoihaghoahnlaaRows
import Derived.Test.YtjoihaghoahnlaaTripleOrders
import Derived.ProofKit
import Derived.OpenShut
import Derived.ChangeOld
namespace Go.Proofs.Ytjoihaghoahnlaa.lawTripleOrders
open Go.ChangeShapes Go.WideShapes Go.ChangeAt Go.RowKit
set_option linter.unusedVariables false

theorem own : ownKnob Try.prog.godebug = none := by kernel_rfl

set_option maxHeartbeats 400000 in
theorem walk (w : World) : Calls Try.prog 3 #[] w fun e w' => e = .returned (.bool true) ∧ Below w.heap.size w w' := by
  go_enter Try.func3, Try.ntmps3
  go_wp2_with fail
  refine (specTripleOrders_c _).mono ?_
  rintro e w1 ⟨⟨A1, c1, rfl, ho1⟩, hb1⟩
  have HS := Lib.hid ho1
  clear ho1
  go_wp2_with fail
  refine (implTripleOrders_c _).mono ?_
  rintro e w2 ⟨⟨A2, c2, rfl, ho2⟩, hb2⟩
  have HO2 := Lib.hid ho2
  have HS2 := Lib.hid (HS.out.below hb2)
  have z1 := hb1.size
  have hB2 : Below w.heap.size w w2 := hb1.trans (hb2.mono z1)
  clear ho2
  have hq := eqS w2 HO2.out.rd HS2.out.rd rfl rfl (by decide)
  rw [decide_eq_true rfl] at hq
  have HQ := Lib.hid hq
  clear hq
  go_wp2_with fail
  refine (HQ.out).mono ?_
  rintro e w3 ⟨rfl, m3, rfl⟩
  go_wp2_with fail
  refine (markS _ w1.heap.size A2 c2 ordersL 9 1 (HO2.out.drewN m3) rfl (by omega) (by omega)).mono ?_
  rintro e w4 ⟨rfl, ho4, hg4⟩
  have hB4 : Below w1.heap.size w2 w4 := ((Below.refl _ _).trans (below_drewN (Below.refl _ _) m3)).grown hg4 (by have := hb2.size; exact this) (fun g e => by
    rcases HO2.out.form with ⟨e1, _⟩ | ⟨g1, e1, hl1, _⟩
    · rw [e1] at e; simp [blk] at e
    · rw [e1, blk_some] at e; injection e with e; omega)
  have hS4 := (HS.out.below (hb2.trans hB4))
  have HS4 := Lib.hid hS4
  have HO4 := Lib.hid ho4
  clear hS4 ho4
  go_wp2_with fail
  refine (heldS _ A2 9 c2 1 (by
    intro k hk
    obtain ⟨b, off, e1, e2, e3⟩ := HO4.out.rd.at_ k (by rw [length_upFrom]; exact hk)
    rw [nth_upFrom hk] at e3
    exact ⟨b, off, e1, e2, e3⟩) (by omega) (by omega)).mono ?_
  rintro e w5 ⟨rfl, rfl⟩
  go_wp2_with fail
  refine (implTripleOrders_c _).mono ?_
  rintro e w6 ⟨⟨A6, c6, rfl, ho6⟩, hb6⟩
  have hq := eqS w6 ho6.rd (HS4.out.below hb6).rd rfl rfl (by decide)
  rw [decide_eq_true rfl] at hq
  have HQ := Lib.hid hq
  have HO6 := Lib.hid (HO4.out.below hb6)
  clear hq ho6
  go_wp2_with fail
  refine (HQ.out).mono ?_
  rintro e w7 ⟨rfl, m7, rfl⟩
  go_wp2_with fail
  refine (heldS _ A2 9 c2 1 (by
    intro k hk
    obtain ⟨b, off, e1, e2, e3⟩ := (HO6.out.drewN m7).rd.at_ k (by rw [length_upFrom]; exact hk)
    rw [nth_upFrom hk] at e3
    exact ⟨b, off, e1, e2, e3⟩) (by omega) (by omega)).mono ?_
  rintro e w8 ⟨rfl, rfl⟩
  have hfin : Below w.heap.size w (w6.drewN m7) := by
    have h1 : Below w.heap.size w w4 := hb1.trans ((hb2.mono z1).trans (hB4.mono z1))
    exact below_drewN (h1.trans (hb6.mono h1.size)) m7
  go_wp2
  go_ret
  exact ⟨rfl, hfin⟩

set_option maxRecDepth 100000 in
theorem lifted (os : Os) (started : os.Started) (H : Type) (enc : TypeId × Value → H) :
    ReturnsInHanded {} Try.checked os 3 .any (Rows.fnExactTripleOrdersSpec.pre6 enc Try.prog Try.f3 Rows.fnExactTripleOrdersRow.domain false) (Rows.fnExactTripleOrdersSpec.post enc Try.prog Try.f3 false true false false) := by
  refine returnsInHanded_of_change (C := Try.checked) own started (by kernel_rfl) Try.func3
    (ChangeSpec.witness6 (enc := enc) (C := Try.checked) false ⟨#[], #[], []⟩ 8 (by kernel_rfl) (by kernel_rfl) (by kernel_rfl) (by kernel_rfl)) ?_
  intro W base args ds gs before hval0 hW hcnd _
  have hW' := hW
  obtain ⟨p, q, hA0, hV, rfl, hfz, hnd⟩ := hW
  have hA : DataW.TrodAll enc Try.prog W 0 (fun _ => true) true Try.f3.params.toList args.toList ds p := hA0
  rw [Try.params3] at hA
  obtain ⟨hargs, rfl, rfl⟩ := trodAll_nil hA
  obtain rfl : args = #[] := by cases args; simp_all
  obtain ⟨rfl, rfl⟩ := trodVars_none hV
  clear hA0 hval0
  refine (walk W).mono fun e W' ⟨he, bel⟩ => ?_
  subst he
  exact ⟨_, rfl, _, _, _, [], _, [], hW', trodAll_mk1 (shut_bool Try.underlying4 _), trodAll_mk0, rfl, bel.frame _, fun h => by cases h⟩

theorem over : Rows.fnExactTripleOrdersRow.holds Try.pinned (OpenSpec.ofChange Rows.fnExactTripleOrdersSpec) :=
  OpenClaim.holds_of_wide 3 Try.f3 rfl rfl rfl rfl rfl rfl rfl ⟨rfl, rfl, rfl, rfl, rfl⟩ rfl rfl rfl rfl rfl (by kernel_rfl) Try.func3 (by kernel_rfl)
    (of_decide_eq_true (by kernel_rfl)) (by unfold Func.isWrapper; first | (rw [if_pos (by decide +kernel)]; kernel_rfl) | (rw [if_neg (by decide +kernel)]; exact ⟨rfl, rfl⟩))
    (fun os started H enc _ => lifted os started H enc)

/-- The statement. -/
theorem proved : Rows.FnExactTripleOrdersSaid := over
#print axioms proved
end Go.Proofs.Ytjoihaghoahnlaa.lawTripleOrders
