/-
  Quadrilaterals in the program: PaschsOf. Conditions: those of each theorem.
-/
import Derived.Test.YtmmkmkbpgcbehaaGreatPasB
import Derived.Test.YtmmkmkbpgcbehaaGreatPasQ
namespace Go.Proofs.YtmmkmkbpgcbehaaGreat
open Go.RowKit
set_option linter.unusedVariables false
set_option linter.unusedSimpArgs false

set_option maxRecDepth 100000 in
set_option maxHeartbeats 8000000 in
theorem implPaschsOf_c (w : World) (p : Int) (hp : -9223372036854775808 ≤ p ∧ p ≤ 9223372036854775807) (A : Option Addr) (n c : Nat) (R : Spine) (xss : List (List Int)) (hr : RdM w A c R xss) (hn : xss.length = n) (hw : WfM xss) (hz : (n : Int) + (tot xss : Nat) ≤ 1048576) :
    Calls Tryz.prog 8 #[.agg #[.int .i64 p, .slice A n c]] w (PostMC w (quR p xss) (quC p xss)) := by
  have hB0 := below_boxed w (.cells #[.int .i64 p, .slice A n c] 28)
  have hX := BoxD.made w p A n c 28
  have hO := IsTriple_c _ p A n c R xss (hr.below hB0) hn
  have HB0 := Lib.hid hB0
  have HX := Lib.hid hX
  clear hp hw hz
  rcases hd : tripB p xss with _ | _
  · rw [hd] at hO
    rw [show quR p xss = [] by simp [quR, hd], show quC p xss = 1 by simp [quC, hd]]
    have HO := Lib.hid hO
    clear hO hd hX hB0 hr hn
    go_enter Tryz.func8, Tryz.ntmps8
    go_wp2_with fail
    refine (HO.out).mono ?_
    rintro e w2 ⟨rfl, hb2⟩
    have HB2 := Lib.hid (HB0.out.trans (hb2.mono HB0.out.size))
    clear hb2
    go_wp2
    go_ret2
    exact ⟨⟨none, 0, 0, fun _ => (none, 0), rfl, rfl, OwnM.nil_ _ _ _⟩, HB2.out⟩
  rw [hd] at hO
  have hT := trip_dsg hd
  obtain ⟨P, rfl⟩ : ∃ P : Nat, p = (P : Int) := ⟨p.toNat, by have := hT.1.1.1; omega⟩
  obtain ⟨hD, hTs⟩ := trip_sys hd
  rw [show quR (P : Int) xss = qdR xss by simp [quR, hd], show quC (P : Int) xss = 0 by simp [quC, hd]]
  have HO := Lib.hid hO
  have HPs := Lib.hid (fun (W : World) (hb : Below w.heap.size w W) => paschsOf_c W P A n c R xss (hr.below hb) hn hD hTs)
  clear hO hd hX hB0 hr hn hD hTs hT
  go_enter Tryz.func8, Tryz.ntmps8
  go_wp2_with fail
  refine (HO.out).mono ?_
  rintro e w2 ⟨rfl, hb2⟩
  have hx := HX.out.below hb2
  have hc0 := hx.c0
  have hc1 := hx.c1
  have HB2 := Lib.hid (HB0.out.trans (hb2.mono HB0.out.size))
  clear hb2 hx
  go_wp2_with fail
  refine (HPs.out w2 HB2.out).mono ?_
  rintro e w3 ⟨⟨A3, n3, c3, R3, rfl, hn3, ho3⟩, hb3⟩
  have HB3 := Lib.hid (HB2.out.trans (hb3.mono HB2.out.size))
  have HO3 := Lib.hid (ho3.lower (lo' := w.heap.size) HB2.out.size)
  have HN3 := Lib.hid hn3
  clear hb3 ho3 hn3
  go_wp2
  go_ret2
  exact ⟨⟨A3, n3, c3, R3, rfl, HN3.out, HO3.out⟩, HB3.out⟩
end Go.Proofs.YtmmkmkbpgcbehaaGreat
