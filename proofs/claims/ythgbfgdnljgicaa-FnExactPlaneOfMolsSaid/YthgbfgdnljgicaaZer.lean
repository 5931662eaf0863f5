/-
  Squares that are filled cell by cell: l06Zero, stores into an owned square. Conditions: those of each theorem.
-/
import Derived.Test.YthgbfgdnljgicaaMat
import Derived.Deep.RegionHeld3
namespace Go.Proofs.Ythgbfgdnljgicaa
open Go.RowKit Go.Deep
set_option linter.unusedVariables false
set_option linter.unusedSimpArgs false

/-- A store at (i, j) of an owned square whose row i is known. -/
theorem OwnM.sq_store {w : World} {lo : Nat} {A : Option Addr} {c : Nat} {R : Spine} {f : Nat → Nat → Int} {m k i j g' : Nat} (h : OwnM w lo A c R (sqTo f m k)) (hi : i < k) (hj : j < m) (e : (R i).1 = some ⟨g', 0, none⟩) (v : Int) :
    OwnM (w.setCell ⟨g', j, none⟩ (.int .i64 v)) lo A c R (sqTo (upd f i j v) m k) := by
  obtain ⟨g, g2, C, _, hc, _, _, _, _, hset⟩ := h.sq_at hi hj
  have hi' : i < (sqTo f m k).length := by rw [length_sqTo]; exact hi
  obtain ⟨g3, e3, _, _, hc3, _⟩ := h.at_ hi'
  have hrow := h.rows i hi'
  rw [row_sqTo hi] at hrow
  obtain ⟨g4, e4, _, _, hcj, _⟩ := hrow.at_ (k := j) (by rw [length_rowTo]; exact hj)
  rw [e] at e4
  injection e4 with e4
  injection e4 with e4
  subst e4
  rw [← sqTo_set hi hj]
  rw [e] at hrow
  refine h.row_turned hi' (by rw [row_sqTo hi]; simp) ?_ ?_
  · rw [row_sqTo hi, e]
    exact hrow.stored j v
  · rw [e, blk_some]
    exact grownBy_setCell w ⟨g', j, none⟩ (.int .i64 v)
theorem OwnM.sq_row {w : World} {lo : Nat} {A : Option Addr} {c : Nat} {R : Spine} {f : Nat → Nat → Int} {m k i : Nat} (h : OwnM w lo A c R (sqTo f m k)) (hi : i < k) (hm : 0 < m) :
    ∃ g g', A = some ⟨g, 0, none⟩ ∧ (R i).1 = some ⟨g', 0, none⟩ ∧ lo ≤ g' ∧ g' < w.heap.size ∧ w.cell? ⟨g, i, none⟩ = some (.slice (some ⟨g', 0, none⟩) m (R i).2) ∧ ∀ j, j < m → w.cell? ⟨g', j, none⟩ = some (.int .i64 (f i j)) ∧ w.frozen? ⟨g', j, none⟩ = false := by
  have hi' : i < (sqTo f m k).length := by rw [length_sqTo]; exact hi
  obtain ⟨g, eg, _, _, hc, _⟩ := h.at_ hi'
  have hrow := h.rows i hi'
  rw [row_sqTo hi] at hrow hc
  rw [length_rowTo] at hc
  obtain ⟨g', e', hl, hlt, _, _⟩ := hrow.at_ (k := 0) (by rw [length_rowTo]; exact hm)
  refine ⟨g, g', eg, e', hl, hlt, by rw [hc, e'], fun j hj => ?_⟩
  obtain ⟨g2, e2, _, _, hcj, hf⟩ := hrow.at_ (k := j) (by rw [length_rowTo]; exact hj)
  rw [e'] at e2
  injection e2 with e2
  injection e2 with e2
  subst e2
  rw [nth_rowTo hj] at hcj
  exact ⟨hcj, hf⟩

def zeroF (_ _ : Nat) : Int := 0
set_option maxHeartbeats 1000000 in
theorem l06Zero_c (w : World) (a b : Nat) (ha : a ≤ 1048576) (hb : b ≤ 1048576) :
    Calls Try.prog 55 #[.int .i64 (a : Int), .int .i64 (b : Int)] w (PostM w (sqTo zeroF b a)) := by
  have H0 := Lib.hid (OwnM.lit0 w (Nat.le_refl w.heap.size) (fun _ => (none, 0)))
  have hmk := fun W : World => run_make_row' (P := Try.prog) 35 2 (.int .i64 0) 8 Try.underlying35 infoI rfl .i64 .i64 b (by omega) (by omega) W
  go_enter Try.func55, Try.ntmps55
  go_wp2
  go_loopw [5, 6] (fun o i wr => ∃ (k : Nat) (A' : Option Addr) (c' : Nat) (R' : Spine), k ≤ a ∧ i = .int .i64 k ∧ o = .slice A' k c' ∧ Hid (OwnM wr w.heap.size A' c' R' (sqTo zeroF b k)) ∧ Hid (Below w.heap.size w wr)) (fun _ i _ => a - (intOf i).toNat)
  case atStart => exact ⟨0, _, _, _, Nat.zero_le _, rfl, rfl, H0, Lib.hid ((Below.refl _ _).alloc (Nat.le_refl _) _)⟩
  case round =>
    obtain ⟨k, A', c', R', hk, rfl, rfl, HO, HB⟩ := hrel
    have hz1 := HB.out.size
    by_cases hlt : k < a
    · have hB1 : Below w.heap.size w ((wr.alloc (.cells (madeCells #[.int .i64 0] b) 2)).alloc (.cells #[.slice (some ⟨wr.heap.size, 0, none⟩) b b] 35)) := (HB.out.alloc hz1 _).alloc (by simp; omega) _
      have hi0 := OwnI.made wr b (by unfold maxLen; omega) (Nat.le_refl wr.heap.size)
      rw [show List.replicate b (0 : Int) = rowTo zeroF k b by
        apply List.ext_getElem
        · rw [length_rowTo]; simp
        · intro j h1 h2
          have h3 : j < b := by simpa using h1
          simp [rowTo, zeroF]] at hi0
      have HI1 := Lib.hid ((hi0.lower hz1).alloc (.cells #[.slice (some ⟨wr.heap.size, 0, none⟩) b b] 35))
      have HO1 := Lib.hid ((HO.out.alloc (.cells (madeCells #[.int .i64 0] b) 2)).alloc (.cells #[.slice (some ⟨wr.heap.size, 0, none⟩) b b] 35))
      have HAp := Lib.hid (later_apart HO.out hi0)
      have hsz : (wr.alloc (.cells (madeCells #[.int .i64 0] b) 2)).heap.size = wr.heap.size + 1 := by simp
      clear hi0
      go_wp2_with (at_builtin
                   refine wpM_append rfl _ _ rfl w.heap.size _ _ _ R' (sqTo zeroF b k) (some ⟨wr.heap.size, 0, none⟩) b b (rowTo zeroF k b) (wr.heap.size + 1) rfl rfl (length_sqTo zeroF b k) (length_rowTo zeroF k b) HO1.out HI1.out HAp.out (World.cell?_alloc_at _ _ _ _ hsz.symm) (by omega) (by simp; omega) ?_
                   intro A2 c2 R2 w2 ho2 hg2 ha2)
      have HB2 := Lib.hid (hB1.trans (below_blkM HO1.out hg2 (Nat.le_refl _) (by simp; omega)))
      have HO2 := Lib.hid ho2
      have HS := Lib.hid (sqTo_succ zeroF b k)
      clear ho2 hg2 ha2 hB1
      go_wp2
      go_roundw
      case rel => exact ⟨k + 1, A2, c2, R2, by omega, by go_num, rfl, by rw [HS.out]; exact HO2, HB2⟩
      case measure => simp [intOf]; omega
    · obtain rfl : k = a := by omega
      have HL := Lib.hid (length_sqTo zeroF b k)
      go_wp2
      go_ret
      exact ⟨⟨A', k, c', R', rfl, HL.out, HO.out⟩, HB.out⟩

def tqF (f : Nat → Nat → Int) (x y : Nat) : Nat → Nat → Int := fun i j => if i < x ∨ (i = x ∧ j < y) then f i j else 0
theorem tqF_set (f : Nat → Nat → Int) (x y : Nat) : upd (tqF f x y) x y (f x y) = tqF f x (y + 1) := by
  funext i j
  unfold upd tqF
  by_cases e : i = x ∧ j = y
  · obtain ⟨rfl, rfl⟩ := e
    rw [if_pos ⟨rfl, rfl⟩, if_pos (by omega)]
  · rw [if_neg e]
    by_cases h : i < x ∨ (i = x ∧ j < y)
    · rw [if_pos h, if_pos (by omega)]
    · rw [if_neg h, if_neg (by omega)]
theorem upd_upd (f : Nat → Nat → Int) (x y : Nat) (u v : Int) : upd (upd f x y u) x y v = upd f x y v := by
  funext i j
  unfold upd
  by_cases e : i = x ∧ j = y
  · rw [if_pos e, if_pos e]
  · rw [if_neg e, if_neg e, if_neg e]
theorem tqF_row (f : Nat → Nat → Int) (x P : Nat) : sqTo (tqF f x P) P P = sqTo (tqF f (x + 1) 0) P P := sqTo_congr fun i j _ hj => by
  unfold tqF
  by_cases h : i < x ∨ (i = x ∧ j < P)
  · rw [if_pos h, if_pos (by omega)]
  · rw [if_neg h, if_neg (by omega)]
theorem tqF_zero (f : Nat → Nat → Int) (P : Nat) : sqTo zeroF P P = sqTo (tqF f 0 0) P P := sqTo_congr fun i j _ _ => by
  unfold tqF zeroF
  rw [if_neg (by omega)]
theorem tqF_all (f : Nat → Nat → Int) (P : Nat) : sqTo (tqF f P 0) P P = sqTo f P P := sqTo_congr fun i j hi _ => by
  unfold tqF
  rw [if_pos (by omega)]

end Go.Proofs.Ythgbfgdnljgicaa
