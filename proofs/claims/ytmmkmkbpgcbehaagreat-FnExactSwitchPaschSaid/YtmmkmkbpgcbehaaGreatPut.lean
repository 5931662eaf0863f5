/-
  The reference's l00Put: a number put to its place among rising ones. Conditions: those of each theorem.
-/
import Derived.Test.YtmmkmkbpgcbehaaGreatGa
namespace Go.Proofs.YtmmkmkbpgcbehaaGreat
open Go.RowKit
set_option linter.unusedVariables false
set_option linter.unusedSimpArgs false

def putL : List Int → Int → List Int
  | [], n => [n]
  | x :: xs, n => if n ≤ x then (if n < x then n :: x :: xs else x :: xs) else x :: putL xs n

theorem putL_less {xs : List Int} {n : Int} {k : Nat} (hk : k ≤ xs.length) (h : ∀ j, j < k → nth xs j < n) : putL xs n = xs.take k ++ putL (xs.drop k) n := by
  induction xs generalizing k with
  | nil => simp at hk; subst hk; simp
  | cons x xs ih =>
    match k, hk with
    | 0, _ => simp
    | k + 1, hk =>
      have h0 := h 0 (by omega)
      have hx : ¬ n ≤ x := by simp [nth] at h0; omega
      rw [putL, if_neg hx, List.take_succ_cons, List.drop_succ_cons, List.cons_append, ih (by simpa using hk) (fun j hj => by
        have := h (j + 1) (by omega)
        simpa [nth] using this)]
theorem putL_here {xs : List Int} {n : Int} {k : Nat} (hk : k < xs.length) (h : ∀ j, j < k → nth xs j < n) (hn : n < nth xs k) : putL xs n = xs.take k ++ [n] ++ [nth xs k] ++ xs.drop (k + 1) := by
  rw [putL_less (Nat.le_of_lt hk) h, List.drop_eq_getElem_cons hk, putL, ← nth_eq hk, if_pos (by omega), if_pos hn]
  simp
theorem putL_same {xs : List Int} {n : Int} {k : Nat} (hk : k < xs.length) (h : ∀ j, j < k → nth xs j < n) (hn : n = nth xs k) : putL xs n = xs.take k ++ [nth xs k] ++ xs.drop (k + 1) := by
  rw [putL_less (Nat.le_of_lt hk) h, List.drop_eq_getElem_cons hk, putL, ← nth_eq hk, if_pos (by omega), if_neg (by omega)]
  simp
theorem putL_end {xs : List Int} {n : Int} (h : ∀ j, j < xs.length → nth xs j < n) : putL xs n = xs ++ [n] := by
  rw [putL_less (Nat.le_refl _) h]; simp [putL]
theorem putL_length (xs : List Int) (n : Int) : (putL xs n).length ≤ xs.length + 1 := by
  induction xs with
  | nil => simp [putL]
  | cons x xs ih => unfold putL; split <;> (try split) <;> simp <;> omega

/-- What has been written when k numbers have been seen; d: n has its place. -/
def PutTo (xs : List Int) (n : Int) (k : Nat) (d : Bool) (o : List Int) : Prop :=
  (d = false → (∀ j, j < k → nth xs j < n) ∧ o = xs.take k) ∧ (d = true → o ++ xs.drop k = putL xs n)
theorem PutTo.zero (xs : List Int) (n : Int) : PutTo xs n 0 false [] := ⟨fun _ => ⟨fun j hj => absurd hj (by omega), by simp⟩, fun h => by cases h⟩
theorem PutTo.next {xs : List Int} {n : Int} {k : Nat} {o : List Int} (h : PutTo xs n k true o) (hk : k < xs.length) : PutTo xs n (k + 1) true (o ++ [nth xs k]) := by
  refine ⟨(fun h => by cases h), fun _ => ?_⟩
  rw [← h.2 rfl, List.drop_eq_getElem_cons hk, nth_eq hk]; simp
theorem PutTo.less {xs : List Int} {n : Int} {k : Nat} {o : List Int} (h : PutTo xs n k false o) (hk : k < xs.length) (hn : nth xs k < n) : PutTo xs n (k + 1) false (o ++ [nth xs k]) := by
  obtain ⟨h1, rfl⟩ := h.1 rfl
  refine ⟨fun _ => ⟨fun j hj => ?_, (take_nth hk).symm⟩, (fun h => by cases h)⟩
  by_cases e : j = k
  · subst e; exact hn
  · exact h1 j (by omega)
theorem PutTo.here {xs : List Int} {n : Int} {k : Nat} {o : List Int} (h : PutTo xs n k false o) (hk : k < xs.length) (hn : n < nth xs k) : PutTo xs n (k + 1) true (o ++ [n] ++ [nth xs k]) := by
  obtain ⟨h1, rfl⟩ := h.1 rfl
  exact ⟨(fun h => by cases h), fun _ => (putL_here hk h1 hn).symm⟩
theorem PutTo.same {xs : List Int} {n : Int} {k : Nat} {o : List Int} (h : PutTo xs n k false o) (hk : k < xs.length) (hn : n = nth xs k) : PutTo xs n (k + 1) true (o ++ [nth xs k]) := by
  obtain ⟨h1, rfl⟩ := h.1 rfl
  exact ⟨(fun h => by cases h), fun _ => (putL_same hk h1 hn).symm⟩
theorem PutTo.done {xs : List Int} {n : Int} {o : List Int} (h : PutTo xs n xs.length true o) : o = putL xs n := by
  rw [← h.2 rfl]; simp
theorem PutTo.last {xs : List Int} {n : Int} {o : List Int} (h : PutTo xs n xs.length false o) : o ++ [n] = putL xs n := by
  obtain ⟨h1, rfl⟩ := h.1 rfl
  rw [putL_end h1]; simp
theorem blk_of {w w' : World} {lo : Nat} {A : Option Addr} {c : Nat} {xs : List Int} (h : OwnI w lo A c xs) (hg : w.grownBy w' (blk A)) {a : World} {B : Nat} (hB : Below B a w) (hl : B ≤ lo) (hs : B ≤ w.heap.size) : Below B a w' :=
  hB.trans (below_blk h hg hl hs)

set_option maxHeartbeats 1000000 in
theorem l00Put_c (w : World) (A : Option Addr) (n c : Nat) (xs : List Int) (v : Int) (hr : RdI w A c xs) (hn : xs.length = n) (hz : n ≤ 1048576) :
    Calls Tryz.prog 31 #[.slice A n c, .int .i64 v] w (PostS w (putL xs v)) := by
  have H0 := Lib.hid (OwnI.lit0 w (Nat.le_refl w.heap.size))
  have HR := Lib.hid hr
  have HN := Lib.hid hn
  clear hr hn
  go_enter Tryz.func31, Tryz.ntmps31
  go_wp2
  go_loopw [5, 6, 7] (fun o d i wr => ∃ (k s : Nat) (b : Bool) (A' : Option Addr) (c' : Nat) (os : List Int), k ≤ n ∧ i = .int .i64 k ∧ d = .bool b ∧ o = .slice A' s c' ∧ Hid (os.length = s) ∧ s ≤ k + 1 ∧ Hid (PutTo xs v k b os) ∧ OwnI wr w.heap.size A' c' os ∧ Below w.heap.size w wr) (fun _ _ i _ => n - (intOf i).toNat)
  case atStart => exact ⟨0, 0, false, _, _, [], Nat.zero_le _, rfl, rfl, rfl, rfl, by omega, PutTo.zero xs v, H0.out, (Below.refl _ _).alloc (Nat.le_refl _) _⟩
  case round =>
    obtain ⟨k, s, b, A', c', os, hk, rfl, rfl, rfl, hs, hsk, hP, ho, hB⟩ := hrel
    have HO := Lib.hid ho
    have hz1 := hB.size
    clear ho
    by_cases hlt : k < n
    · have hkx : k < xs.length := by rw [HN.out]; exact hlt
      obtain ⟨bb, off, rfl, hb, hc⟩ := HR.out.at_ k hkx
      have hc' := (hB.cell (p := ⟨bb, off + k, none⟩) hb).trans hc
      clear hc
      obtain ⟨y, hy⟩ : ∃ y, y = nth xs k := ⟨_, rfl⟩
      have HY := Lib.hid hy
      rw [← hy] at hc'
      clear hy
      cases b
      · by_cases h1 : v ≤ y
        · by_cases h2 : v < y
          · have hsk2 : s ≤ k := by
              obtain ⟨_, e⟩ := hP.out.1 rfl
              rw [← hs.out, e]; exact List.length_take_le _ _
            have HP := Lib.hid (hP.out.here hkx (by rw [← HY.out]; exact h2))
            have HO1 := Lib.hid (HO.out.alloc (.cells #[.int .i64 v] 2))
            have tok : True := trivial
            go_wp2_with (first
              | (at_builtin
                 have _t := tok
                 refine wpI_append rfl _ _ rfl w.heap.size _ _ _ os v wr.heap.size rfl rfl hs.out HO1.out (World.cell?_alloc_at _ _ _ _ rfl) (by omega) (by simp; omega) ?_
                 intro A2 c2 w2 ho2 hg2 ha2
                 clear tok
                 have hB2 := blk_of HO1.out hg2 (hB.alloc hz1 _) (Nat.le_refl _) (by simp; omega)
                 have hc2 := ((hB2.cell (p := ⟨bb, off + k, none⟩) hb).trans (hB.cell (p := ⟨bb, off + k, none⟩) hb).symm).trans hc'
                 have hz2 := hB2.size
                 have HO2 := Lib.hid (ho2.alloc (.cells #[.int .i64 y] 2))
                 have HL2 := Lib.hid (show (os ++ [v]).length = s + 1 by rw [List.length_append, hs.out]; rfl)
                 clear ho2 hg2 ha2)
              | (at_builtin
                 refine wpI_append rfl _ _ rfl w.heap.size _ _ _ (os ++ [v]) y w2.heap.size rfl rfl HL2.out HO2.out (World.cell?_alloc_at _ _ _ _ rfl) (by omega) (by have := hB2.size; simp; omega) ?_
                 intro A3 c3 w3 ho3 hg3 ha3
                 have hB3 := blk_of HO2.out hg3 (hB2.alloc hB2.size _) (Nat.le_refl _) (by have := hB2.size; simp; omega)
                 have HO3 := Lib.hid ho3
                 clear ho3 hg3 ha3))
            go_roundw
            case rel => exact ⟨k + 1, s + 1 + 1, true, A3, c3, os ++ [v] ++ [y], by omega, by go_num, rfl, rfl, by show _ = _; rw [List.length_append, HL2.out]; rfl, by omega, by rw [HY.out]; exact HP.out, HO3.out, hB3⟩
            case measure => simp [intOf]; omega
          · have e : v = y := by omega
            have HP := Lib.hid (hP.out.same hkx (by rw [← HY.out]; exact e))
            have HO1 := Lib.hid (HO.out.alloc (.cells #[.int .i64 y] 2))
            have h2' : y ≤ v := by omega
            clear e
            go_wp2_with (at_builtin
                         refine wpI_append rfl _ _ rfl w.heap.size _ _ _ os y wr.heap.size rfl rfl hs.out HO1.out (World.cell?_alloc_at _ _ _ _ rfl) (by omega) (by simp; omega) ?_
                         intro A2 c2 w2 ho2 hg2 ha2)
            have hB2 := blk_of HO1.out hg2 (hB.alloc hz1 _) (Nat.le_refl _) (by simp; omega)
            have HO2 := Lib.hid ho2
            clear ho2 hg2 ha2
            go_wp2
            go_roundw
            case rel => exact ⟨k + 1, s + 1, true, A2, c2, os ++ [y], by omega, by go_num, rfl, rfl, by show _ = _; rw [List.length_append, hs.out]; rfl, by omega, by rw [HY.out]; exact HP.out, HO2.out, hB2⟩
            case measure => simp [intOf]; omega
        · have HP := Lib.hid (hP.out.less hkx (by rw [← HY.out]; omega))
          have HO1 := Lib.hid (HO.out.alloc (.cells #[.int .i64 y] 2))
          go_wp2_with (at_builtin
                       refine wpI_append rfl _ _ rfl w.heap.size _ _ _ os y wr.heap.size rfl rfl hs.out HO1.out (World.cell?_alloc_at _ _ _ _ rfl) (by omega) (by simp; omega) ?_
                       intro A2 c2 w2 ho2 hg2 ha2)
          have hB2 := blk_of HO1.out hg2 (hB.alloc hz1 _) (Nat.le_refl _) (by simp; omega)
          have HO2 := Lib.hid ho2
          clear ho2 hg2 ha2
          go_wp2
          go_roundw
          case rel => exact ⟨k + 1, s + 1, false, A2, c2, os ++ [y], by omega, by go_num, rfl, rfl, by show _ = _; rw [List.length_append, hs.out]; rfl, by omega, by rw [HY.out]; exact HP.out, HO2.out, hB2⟩
          case measure => simp [intOf]; omega
      · have HP := Lib.hid (hP.out.next hkx)
        have HO1 := Lib.hid (HO.out.alloc (.cells #[.int .i64 y] 2))
        go_wp2_with (at_builtin
                     refine wpI_append rfl _ _ rfl w.heap.size _ _ _ os y wr.heap.size rfl rfl hs.out HO1.out (World.cell?_alloc_at _ _ _ _ rfl) (by omega) (by simp; omega) ?_
                     intro A2 c2 w2 ho2 hg2 ha2)
        have hB2 := blk_of HO1.out hg2 (hB.alloc hz1 _) (Nat.le_refl _) (by simp; omega)
        have HO2 := Lib.hid ho2
        clear ho2 hg2 ha2
        go_wp2
        go_roundw
        case rel => exact ⟨k + 1, s + 1, true, A2, c2, os ++ [y], by omega, by go_num, rfl, rfl, by show _ = _; rw [List.length_append, hs.out]; rfl, by omega, by rw [HY.out]; exact HP.out, HO2.out, hB2⟩
        case measure => simp [intOf]; omega
    · obtain rfl : k = n := by omega
      cases b
      · have HP := Lib.hid (show PutTo xs v xs.length false os by rw [HN.out]; exact hP.out).last
        have HO1 := Lib.hid (HO.out.alloc (.cells #[.int .i64 v] 2))
        go_wp2_with (at_builtin
                     refine wpI_append rfl _ _ rfl w.heap.size _ _ _ os v wr.heap.size rfl rfl hs.out HO1.out (World.cell?_alloc_at _ _ _ _ rfl) (by omega) (by simp; omega) ?_
                     intro A2 c2 w2 ho2 hg2 ha2)
        have hB2 := blk_of HO1.out hg2 (hB.alloc hz1 _) (Nat.le_refl _) (by simp; omega)
        have HO2 := Lib.hid (show OwnI w2 w.heap.size A2 c2 (putL xs v) by rw [← HP.out]; exact ho2)
        have HL2 := Lib.hid (show (putL xs v).length = s + 1 by rw [← HP.out, List.length_append, hs.out]; rfl)
        clear ho2 hg2 ha2
        go_wp2
        go_ret
        exact ⟨⟨A2, _, c2, rfl, HL2.out, HO2.out⟩, hB2⟩
      · have HP := Lib.hid (show PutTo xs v xs.length true os by rw [HN.out]; exact hP.out).done
        have HO2 := Lib.hid (show OwnI wr w.heap.size A' c' (putL xs v) by rw [← HP.out]; exact HO.out)
        have HL2 := Lib.hid (show (putL xs v).length = s by rw [← HP.out, hs.out])
        go_wp2
        go_ret
        exact ⟨⟨A', _, c', rfl, HL2.out, HO2.out⟩, hB⟩
end Go.Proofs.YtmmkmkbpgcbehaaGreat
