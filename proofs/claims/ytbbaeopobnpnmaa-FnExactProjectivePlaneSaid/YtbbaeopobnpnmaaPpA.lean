/-
  Slices of triples ([3]int64) that the call owns; projectivePoints of the program. Conditions: those of each theorem.
-/
import Derived.Test.YtbbaeopobnpnmaaPpP
namespace Go.Proofs.Ytbbaeopobnpnmaa
open Go.RowKit
set_option linter.unusedVariables false
set_option linter.unusedSimpArgs false

theorem infoT : (Try.prog.info? 54).map (fun i => (i.zero, i.size, i.bytes)) = some (some (.agg #[.int .i64 0, .int .i64 0, .int .i64 0]), 3, 24) := by kernel_rfl
def v3 (r : List Int) : List Value := [.int .i64 (nth r 0), .int .i64 (nth r 1), .int .i64 (nth r 2)]
def fl3 (xss : List (List Int)) : List Value := xss.flatMap v3
theorem fl3_snoc (xss : List (List Int)) (r : List Int) : fl3 (xss ++ [r]) = fl3 xss ++ v3 r := by simp [fl3]
theorem fl3_len (xss : List (List Int)) : (fl3 xss).length = xss.length * 3 := by
  induction xss with
  | nil => rfl
  | cons r xss ih => unfold fl3 at *; rw [List.flatMap_cons, List.length_append, ih, List.length_cons, Nat.succ_mul]; show 3 + _ = _; omega
theorem fl3_get : ∀ {xss : List (List Int)} {i j : Nat}, i < xss.length → j < 3 → (fl3 xss)[i * 3 + j]? = some (.int .i64 (nth (row xss i) j)) := by
  intro xss
  induction xss with
  | nil => intro i j h; exact absurd h (by simp)
  | cons r xss ih =>
    intro i j hi hj
    show ((v3 r) ++ fl3 xss)[i * 3 + j]? = _
    rcases i with _ | i
    · rw [List.getElem?_append_left (by show 0 * 3 + j < 3; omega)]
      rcases (show j = 0 ∨ j = 1 ∨ j = 2 by omega) with rfl | rfl | rfl <;> simp [v3, row]
    · rw [List.getElem?_append_right (by show 3 ≤ _; omega)]
      have : (i + 1) * 3 + j - (v3 r).length = i * 3 + j := by show (i + 1) * 3 + j - 3 = _; omega
      rw [this, ih (by simp at hi; omega) hj]
      simp [row]
/-- The slice is the call's own and holds the triples. -/
def OwnT (w : World) (lo : Nat) (A : Option Addr) (c : Nat) (xss : List (List Int)) : Prop :=
  w.ownsRow lo 54 3 (.slice A xss.length c) xss.length (fl3 xss)
section
variable {w w' : World} {lo lo' : Nat} {A : Option Addr} {c : Nat} {xss : List (List Int)}
theorem OwnT.at_ (h : OwnT w lo A c xss) {i : Nat} (hi : i < xss.length) : ∃ g, A = some ⟨g, 0, none⟩ ∧ lo ≤ g ∧ g < w.heap.size ∧ ∀ j, j < 3 → w.cell? ⟨g, i * 3 + j, none⟩ = some (.int .i64 (nth (row xss i) j)) := by
  rcases h.2 with ⟨e, hn⟩ | ⟨g, cap, cur, e, hg, hh, hc, hm, hs, ht⟩
  · omega
  · injection e with e1 e2 e3
    subst e1 e3
    refine ⟨g, rfl, hg, (Array.getElem?_eq_some_iff.1 hh).1, fun j hj => ?_⟩
    rw [World.ownsRow.cellAt h (i * 3 + j) (by omega)]
    exact fl3_get hi hj
theorem OwnT.below (h : OwnT w lo A c xss) (hb : Below w.heap.size w w') : OwnT w' lo A c xss := by
  refine ⟨h.1, ?_⟩
  rcases h.2 with hn | ⟨g, cap, cur, e, hg, hh, r⟩
  · exact .inl hn
  · exact .inr ⟨g, cap, cur, e, hg, by rw [hb.block g (Array.getElem?_eq_some_iff.1 hh).1]; exact hh, r⟩
theorem OwnT.alloc (h : OwnT w lo A c xss) (o : Obj) : OwnT (w.alloc o) lo A c xss := h.below ((Below.refl _ _).alloc (Nat.le_refl _) o)
theorem OwnT.blk (h : OwnT w lo A c xss) {g : Nat} (e : Go.Proofs.Ytbbaeopobnpnmaa.blk A = some g) : lo ≤ g ∧ g < w.heap.size := by
  rcases h.2 with ⟨e1, hn⟩ | ⟨g', cap, cur, e1, hg, hh, _⟩
  · injection e1 with e1; rw [e1] at e; simp [Go.Proofs.Ytbbaeopobnpnmaa.blk] at e
  · injection e1 with e1; rw [e1, blk_some] at e; injection e with e; subst e; exact ⟨hg, (Array.getElem?_eq_some_iff.1 hh).1⟩
end
theorem below_blkT {w w' : World} {lo B : Nat} {A : Option Addr} {c : Nat} {xss : List (List Int)} (ho : OwnT w lo A c xss) (hg : w.grownBy w' (blk A)) (hB : B ≤ lo) (hs : B ≤ w.heap.size) : Below B w w' :=
  (Below.refl B w).grown hg hs fun g e => by have := (ho.blk e).1; omega
section
variable {ops : Array Oper} {rest : List Oper} {o : Oper} {a : Act} {Q : Exit → Act → World → Prop}
theorem wpT_append {w : World} (hgd : o.guard = none) (s x : Operand) (ho : o.op = .call { callee := .builtin .append, args := #[s, x], argTypes := #[52, 52] })
    (lo : Nat) (A : Option Addr) (c n : Nat) (xss : List (List Int)) (r : List Int) (bx : Nat) (hs : a.eval s = .slice A n c) (hx : a.eval x = .slice (some ⟨bx, 0, none⟩) 1 1)
    (hn : xss.length = n) (hown : OwnT w lo A c xss) (hcell : ∀ j, j < 3 → w.cell? ⟨bx, j, none⟩ = some (.int .i64 (nth r j))) (hlen : n + 1 ≤ 1048576) (hlo : lo ≤ w.heap.size)
    (h : ∀ A' c' w', OwnT w' lo A' c' (xss ++ [r]) → w.grownBy w' (blk A) → wpList Try.prog ops Q rest (a.put o.dst (.slice A' (n + 1) c')) w') :
    wpList Try.prog ops Q (o :: rest) a w := by
  obtain ⟨i, hi, hz, hz1, hz2⟩ := info_parts infoT
  subst hn
  refine wpList_append_own_at w hgd s x 52 ho lo 54 i _ 3 24 Try.underlying52 hi hz hz1 hz2 rfl (by decide) _ _ _ hs hown ⟨bx, 0, none⟩ 1 1 (v3 r) hx rfl ?_ ?_ ?_ ?_ hlo ?_
  · intro j u hj
    match j, hj with
    | 0, hj => simp [v3] at hj; subst hj; exact hcell 0 (by omega)
    | 1, hj => simp [v3] at hj; subst hj; exact hcell 1 (by omega)
    | 2, hj => simp [v3] at hj; subst hj; exact hcell 2 (by omega)
  · intro u hu; simp [v3] at hu; rcases hu with rfl | rfl | rfl <;> rfl
  · unfold maxLen; omega
  · omega
  · intro v' w' h2 h3 _ h5
    obtain ⟨A', c', rfl⟩ : ∃ A c, v' = .slice A (xss.length + 1) c := by
      rcases h2.2 with ⟨rfl, h0⟩ | ⟨g, cap, cur, rfl, _⟩
      · omega
      · exact ⟨_, _, rfl⟩
    rw [ownBlock_slice] at h3
    refine h A' c' w' ?_ h3
    unfold OwnT
    rw [List.length_append, fl3_snoc]
    exact h2
end
theorem tri_cells (w : World) (a b d : Int) : ∀ j, j < 3 → (w.alloc (.cells #[.int .i64 a, .int .i64 b, .int .i64 d] 54)).cell? ⟨w.heap.size, j, none⟩ = some (.int .i64 (nth [a, b, d] j)) := by
  intro j hj
  rcases (show j = 0 ∨ j = 1 ∨ j = 2 by omega) with rfl | rfl | rfl <;> simp [go_sem, nth]
theorem OwnT.lit1 (w : World) (a b d : Int) {lo : Nat} (h : lo ≤ w.heap.size) : OwnT (w.alloc (.cells #[.int .i64 a, .int .i64 b, .int .i64 d] 54)) lo (some ⟨w.heap.size, 0, none⟩) 1 [[a, b, d]] :=
  World.ownsRow_lit (e := 54) (size := 3) w #[.int .i64 a, .int .i64 b, .int .i64 d] 1 h (by unfold maxLen; omega) rfl

set_option maxHeartbeats 4000000 in
set_option maxRecDepth 10000 in
theorem projectivePoints_c (w : World) (n : Nat) (hn : n ≤ 5) :
    Calls Try.prog 33 #[.int .i64 (n : Int)] w fun e w' => (∃ A m c, e = .returned (.slice A m c) ∧ (pjT n).length = m ∧ OwnT w' w.heap.size A c (pjT n)) ∧ Below w.heap.size w w' := by
  have H0 := Lib.hid (show OwnT (w.alloc (.cells #[.int .i64 0, .int .i64 0, .int .i64 1] 54)) w.heap.size (some ⟨w.heap.size, 0, none⟩) 1 (pjT0 0) from OwnT.lit1 w 0 0 1 (Nat.le_refl _))
  have HB0 := Lib.hid (below_boxed w (.cells #[.int .i64 0, .int .i64 0, .int .i64 1] 54))
  go_enter Try.func33, Try.ntmps33
  go_wp2
  go_loopw [3, 10] (fun o v wr => ∃ (m : Nat) (A' : Option Addr) (c' : Nat), m ≤ n ∧ v = .int .i64 m ∧ o = .slice A' (m + 1) c' ∧ Hid (OwnT wr w.heap.size A' c' (pjT0 m)) ∧ Hid (Below w.heap.size w wr)) (fun _ v _ => n - (intOf v).toNat)
  case atStart => exact ⟨0, _, _, Nat.zero_le _, rfl, rfl, H0, HB0⟩
  case round =>
    obtain ⟨m, A', c', hm, rfl, rfl, HO, HB⟩ := hrel
    have hsz := HB.out.size
    by_cases hmn : m < n
    · have hm0 : (0 : Int) ≤ (m : Int) := by omega
      have hm1 : (m : Int) < (n : Int) := by omega
      have HL := Lib.hid (pjT0_len m)
      have HOa := Lib.hid (HO.out.alloc (.cells #[.int .i64 0, .int .i64 1, .int .i64 (m : Int)] 54))
      go_wp2_with (at_builtin; refine wpT_append rfl _ _ rfl w.heap.size _ _ _ (pjT0 m) [0, 1, (m : Int)] wr.heap.size rfl rfl HL.out HOa.out (tri_cells wr 0 1 (m : Int)) (by omega) (by simp; omega) ?_; intro A7 c7 w7 ho7 hg7)
      have HB7 := Lib.hid (show Below w.heap.size w w7 from (HB.out.alloc hsz (.cells #[.int .i64 0, .int .i64 1, .int .i64 (m : Int)] 54)).trans (below_blkT HOa.out hg7 (Nat.le_refl _) (by simp; omega)))
      have HO7 := Lib.hid (show OwnT w7 w.heap.size A7 c7 (pjT0 (m + 1)) from by rw [pjT0_succ]; exact ho7)
      clear ho7 hg7
      go_wp2
      go_roundw
      case rel => exact ⟨m + 1, A7, c7, by omega, by go_num, rfl, HO7, HB7⟩
      case measure => simp [intOf] <;> omega
    · obtain rfl : m = n := by omega
      have HO1 := Lib.hid (show OwnT wr w.heap.size A' c' (pjT0 m ++ pjTy m 0) from by simpa [pjTy] using HO.out)
      have HS1 := Lib.hid (show (pjT0 m ++ pjTy m 0).length = m + 1 from by simp [pjTy, pjT0_len])
      obtain ⟨n, rfl⟩ : ∃ n, n = m := ⟨_, rfl⟩
      go_wp2
      go_loopw [3, 20] (fun o v wr => ∃ (y s : Nat) (A' : Option Addr) (c' : Nat), y ≤ n ∧ v = .int .i64 y ∧ o = .slice A' s c' ∧ Hid ((pjT0 n ++ pjTy n y).length = s) ∧ s ≤ n + 1 + 5 * y ∧ Hid (OwnT wr w.heap.size A' c' (pjT0 n ++ pjTy n y)) ∧ Hid (Below w.heap.size w wr)) (fun _ v _ => n - (intOf v).toNat)
      case atStart => exact ⟨0, n + 1, _, _, Nat.zero_le _, rfl, rfl, HS1, by omega, HO1, HB⟩
      case round =>
        obtain ⟨y, s, A', c', hy, rfl, rfl, HS, hs, HO, HB⟩ := hrel
        by_cases hyn : y < n
        · have hy0 : (0 : Int) ≤ (y : Int) := by omega
          have hy1 : (y : Int) < (n : Int) := by omega
          have HO2 := Lib.hid (show OwnT wr w.heap.size A' c' (pjT0 n ++ pjTy n y ++ pjTz y 0) from by simpa [pjTz] using HO.out)
          have HS2 := Lib.hid (show (pjT0 n ++ pjTy n y ++ pjTz y 0).length = s from by rw [show pjTz y 0 = [] from rfl, List.append_nil]; exact HS.out)
          obtain ⟨wo, rfl⟩ : ∃ wo, wo = wr := ⟨_, rfl⟩
          go_wp2
          go_loopw [3, 24] (fun o v wr => ∃ (z s2 : Nat) (A' : Option Addr) (c' : Nat), z ≤ n ∧ v = .int .i64 z ∧ o = .slice A' s2 c' ∧ Hid ((pjT0 n ++ pjTy n y ++ pjTz y z).length = s2) ∧ s2 ≤ s + z ∧ Hid (OwnT wr w.heap.size A' c' (pjT0 n ++ pjTy n y ++ pjTz y z)) ∧ Hid (Below w.heap.size w wr)) (fun _ v _ => n - (intOf v).toNat)
          case atStart => exact ⟨0, s, _, _, Nat.zero_le _, rfl, rfl, HS2, by omega, HO2, HB⟩
          case round =>
            obtain ⟨z, s2, A2, c2, hz, rfl, rfl, HS2, hs2, HO2, HB2⟩ := hrel
            have hsz2 := HB2.out.size
            by_cases hzn : z < n
            · have hz0 : (0 : Int) ≤ (z : Int) := by omega
              have hz1 : (z : Int) < (n : Int) := by omega
              have HOa := Lib.hid (HO2.out.alloc (.cells #[.int .i64 1, .int .i64 (y : Int), .int .i64 (z : Int)] 54))
              go_wp2_with (at_builtin; refine wpT_append rfl _ _ rfl w.heap.size _ _ _ (pjT0 n ++ pjTy n y ++ pjTz y z) [1, (y : Int), (z : Int)] wr.heap.size rfl rfl HS2.out HOa.out (tri_cells wr 1 (y : Int) (z : Int)) (by omega) (by simp; omega) ?_; intro A7 c7 w7 ho7 hg7)
              have HB7 := Lib.hid (show Below w.heap.size w w7 from (HB2.out.alloc hsz2 (.cells #[.int .i64 1, .int .i64 (y : Int), .int .i64 (z : Int)] 54)).trans (below_blkT HOa.out hg7 (Nat.le_refl _) (by simp; omega)))
              have HO7 := Lib.hid (show OwnT w7 w.heap.size A7 c7 (pjT0 n ++ pjTy n y ++ pjTz y (z + 1)) from by rw [pjTz_succ, ← List.append_assoc]; exact ho7)
              have HS7 := Lib.hid (show (pjT0 n ++ pjTy n y ++ pjTz y (z + 1)).length = s2 + 1 from by rw [pjTz_succ, ← List.append_assoc, List.length_append, HS2.out]; rfl)
              clear ho7 hg7
              go_wp2
              go_roundw
              case rel => exact ⟨z + 1, s2 + 1, A7, c7, by omega, by go_num, rfl, HS7, by omega, HO7, HB7⟩
              case measure => simp [intOf] <;> omega
            · obtain rfl : z = n := by omega
              have HO7 := Lib.hid (show OwnT wr w.heap.size A2 c2 (pjT0 z ++ pjTy z (y + 1)) from by rw [pjTy_succ, ← List.append_assoc]; exact HO2.out)
              have HS7 := Lib.hid (show (pjT0 z ++ pjTy z (y + 1)).length = s2 from by rw [pjTy_succ, ← List.append_assoc]; exact HS2.out)
              go_wp2
              go_roundw
              case rel => exact ⟨y + 1, s2, A2, c2, by omega, by go_num, rfl, HS7, by omega, HO7, HB2⟩
              case measure => simp [intOf] <;> omega
        · obtain rfl : y = n := by omega
          go_wp2
          go_ret
          exact ⟨⟨_, _, _, rfl, HS.out, HO.out⟩, HB.out⟩
theorem sizeT_c (w : World) (A : Option Addr) (n c : Nat) : Calls Try.prog 34 #[.slice A n c] w fun e w' => e = .returned (.int .i64 (n : Int)) ∧ w = w' := by
  go_enter Try.func34, Try.ntmps34
  go_wp2
  go_ret
  exact ⟨rfl, rfl⟩
end Go.Proofs.Ytbbaeopobnpnmaa
