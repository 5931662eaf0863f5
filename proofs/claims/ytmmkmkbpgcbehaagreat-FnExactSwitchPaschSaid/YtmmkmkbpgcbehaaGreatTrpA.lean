/-
  A block of three points: triple of the program, l11Block of the reference. Conditions: those of each theorem.
-/
import Derived.Test.YtmmkmkbpgcbehaaGreatSort
namespace Go.Proofs.YtmmkmkbpgcbehaaGreat
open Go.RowKit
set_option linter.unusedVariables false
set_option linter.unusedSimpArgs false

theorem OwnI.tri (w : World) (x y z : Int) {lo : Nat} (h : lo ≤ w.heap.size) : OwnI (w.alloc (.cells #[.int .i64 x, .int .i64 y, .int .i64 z] 2)) lo (some ⟨w.heap.size, 0, none⟩) 3 [x, y, z] :=
  World.ownsRow_lit (e := 2) (size := 1) w #[.int .i64 x, .int .i64 y, .int .i64 z] 3 h (by unfold maxLen; omega) rfl
theorem OwnI.one (w : World) (x : Int) {lo : Nat} (h : lo ≤ w.heap.size) : OwnI (w.alloc (.cells #[.int .i64 x] 2)) lo (some ⟨w.heap.size, 0, none⟩) 1 [x] :=
  World.ownsRow_lit (e := 2) (size := 1) w #[.int .i64 x] 1 h (by unfold maxLen; omega) rfl
/-- Three points in ascending order. -/
def trp (x y z : Int) : List Int := sortL [x, y, z]
theorem trp_len (x y z : Int) : (trp x y z).length = 3 := by unfold trp; rw [sortL_len]; rfl
theorem trp_mem {x y z v : Int} : v ∈ trp x y z ↔ v = x ∨ v = y ∨ v = z := by unfold trp; rw [sortL_mem]; simp
theorem trp_put {x y z : Int} (h1 : x ≠ y) (h2 : x ≠ z) (h3 : y ≠ z) : putL (putL [x] y) z = trp x y z := by
  have h := putsTo_sort (f := fun j => nth [x, y, z] j) (k := 3) (fun i j hij hj => by
    have e : (i = 0 ∧ j = 1) ∨ (i = 0 ∧ j = 2) ∨ (i = 1 ∧ j = 2) := by omega
    rcases e with ⟨rfl, rfl⟩ | ⟨rfl, rfl⟩ | ⟨rfl, rfl⟩
    · exact h1
    · exact h2
    · exact h3)
  exact h
set_option maxHeartbeats 1000000 in
theorem triple_c (w : World) (x y z : Int) : Calls Tryz.prog 54 #[.int .i64 x, .int .i64 y, .int .i64 z] w (PostS w (trp x y z)) := by
  have HS := Lib.hid (sort_c _ (OwnI.tri w x y z (Nat.le_refl w.heap.size)) (n := 3) rfl (by omega))
  have HO := Lib.hid (OwnI.tri w x y z (Nat.le_refl w.heap.size))
  have HB0 := Lib.hid ((Below.refl w.heap.size w).alloc (Nat.le_refl _) (.cells #[.int .i64 x, .int .i64 y, .int .i64 z] 2))
  have HL := Lib.hid (trp_len x y z)
  go_enter Tryz.func54, Tryz.ntmps54
  go_wp2_with fail
  refine (HS.out).mono ?_
  rintro e w2 ⟨rfl, ho2, hg2⟩
  have HB2 := Lib.hid (HB0.out.trans (below_blk HO.out hg2 (Nat.le_refl _) HB0.out.size))
  have HO2 := Lib.hid ho2
  clear ho2 hg2
  go_wp2
  go_ret
  exact ⟨⟨_, 3, _, rfl, HL.out, HO2.out⟩, HB2.out⟩

set_option maxHeartbeats 1000000 in
theorem l11Block_c (w : World) (x y z : Int) : Calls Tryz.prog 91 #[.int .i64 x, .int .i64 y, .int .i64 z] w (PostS w (putL (putL [x] y) z)) := by
  have HO := Lib.hid (OwnI.one w x (Nat.le_refl w.heap.size))
  have HB0 := Lib.hid ((Below.refl w.heap.size w).alloc (Nat.le_refl _) (.cells #[.int .i64 x] 2))
  have HP := Lib.hid (l00Put_c _ _ 1 1 [x] y HO.out.rd rfl (by omega))
  have HL := Lib.hid (putL_length [x] y)
  go_enter Tryz.func91, Tryz.ntmps91
  go_wp2_with fail
  refine (HP.out).mono ?_
  rintro e w2 ⟨⟨A2, n2, c2, rfl, hn2, ho2⟩, hb2⟩
  have HB2 := Lib.hid (HB0.out.trans (hb2.mono HB0.out.size))
  have HQ := Lib.hid (l00Put_c _ _ n2 c2 _ z ho2.rd hn2 (by have := HL.out; rw [hn2] at this; simp at this; omega))
  clear hn2 ho2 hb2
  go_wp2_with fail
  refine (HQ.out).mono ?_
  rintro e w3 ⟨⟨A3, n3, c3, rfl, hn3, ho3⟩, hb3⟩
  have HB3 := Lib.hid (HB2.out.trans (hb3.mono HB2.out.size))
  have HO3 := Lib.hid (ho3.lower (lo' := w.heap.size) HB2.out.size)
  have HN3 := Lib.hid hn3
  clear hn3 ho3 hb3
  go_wp2
  go_ret
  exact ⟨⟨A3, n3, c3, rfl, HN3.out, HO3.out⟩, HB3.out⟩
theorem l11Block_t (w : World) {x y z : Int} (h1 : x ≠ y) (h2 : x ≠ z) (h3 : y ≠ z) : Calls Tryz.prog 91 #[.int .i64 x, .int .i64 y, .int .i64 z] w (PostS w (trp x y z)) := by
  rw [← trp_put h1 h2 h3]; exact l11Block_c w x y z
end Go.Proofs.YtmmkmkbpgcbehaaGreat
