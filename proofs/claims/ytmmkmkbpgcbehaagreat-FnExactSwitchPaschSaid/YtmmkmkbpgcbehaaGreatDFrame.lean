/-
  A design that came in, opened: what it reads as. Conditions: none.
-/
import Derived.Test.YtmmkmkbpgcbehaaGreatLawFrame
import Derived.Lib.SmallJoins
namespace Go.Proofs.YtmmkmkbpgcbehaaGreat
open Go.ChangeShapes Go.WideShapes Go.ChangeAt Go.RowKit Go.Deep
set_option linter.unusedVariables false
set_option linter.unusedSimpArgs false

section
variable {H : Type} {enc : TypeId × Value → H} {W : World}

set_option maxRecDepth 100000 in
theorem open_D {r : Reach} {b0 : Nat} {v : Value} {d : DataW H} {p : List MemPlace} (hv : Value.okWide Tryz.prog W r b0 24 v) (h : DataW.Trod enc Tryz.prog W 0 (fun _ => true) true 24 v d p) :
    ∃ (x : Int) (A : Option Addr) (n c : Nat) (R : Spine) (xss : List (List Int)), v = .agg #[.int .i64 x, .slice A n c] ∧ (-9223372036854775808 ≤ x ∧ x ≤ 9223372036854775807) ∧ RdM W A c R xss ∧ xss.length = n ∧ WfM xss := by
  obtain ⟨c0, c1, y0, y1, m, rfl, rfl, rfl, h0, h1⟩ := Go.Joins.open_agg2 Tryz.underlying24 (by kernel_rfl) (by kernel_rfl) hv h
  obtain ⟨x, hx, _, hwf⟩ := DataW.trod_int Tryz.underlying2 h0
  injection hx with hx
  subst hx
  have hs : ∃ A n c, c1 = .slice A n c := by
    rcases open_int_rows Tryz.underlying22 Tryz.underlying35 Tryz.underlying2 (by kernel_rfl) (by kernel_rfl) h1 with ⟨hcs, _⟩ | ⟨a, l, c, B, L, C, Z, hcs, _⟩
    · injection hcs with hcs
      exact ⟨_, _, _, hcs⟩
    · injection hcs with hcs
      exact ⟨_, _, _, hcs⟩
  obtain ⟨A, n, c, rfl⟩ := hs
  have h2 : DataW.Trod enc Tryz.prog W 0 (fun _ => true) true 22 (.slice A n c) y1.1 y1.2 := ⟨m, h1⟩
  obtain ⟨R, xss, hr, hn, hw⟩ := open_M h2
  exact ⟨x, A, n, c, R, xss, rfl, wf_b64 hwf, hr, hn, hw⟩
end
end Go.Proofs.YtmmkmkbpgcbehaaGreat
