/-
  filledSquare and emptySquare: a square of what a function value gives. Conditions: those of each theorem.
-/
import Derived.Test.YtmmkmkbpgcbehaaGreatFuncs
namespace Go.Proofs.YtmmkmkbpgcbehaaGreat
open Go.RowKit
set_option linter.unusedVariables false
set_option linter.unusedSimpArgs false

def rowTo (f : Nat → Nat → Int) (x k : Nat) : List Int := (List.range k).map fun y => f x y
def sqTo (f : Nat → Nat → Int) (m k : Nat) : List (List Int) := (List.range k).map fun x => rowTo f x m
theorem length_rowTo (f : Nat → Nat → Int) (x k : Nat) : (rowTo f x k).length = k := by simp [rowTo]
theorem length_sqTo (f : Nat → Nat → Int) (m k : Nat) : (sqTo f m k).length = k := by simp [sqTo]
theorem rowTo_succ (f : Nat → Nat → Int) (x k : Nat) : rowTo f x (k + 1) = rowTo f x k ++ [f x k] := by simp [rowTo, List.range_succ]
theorem sqTo_succ (f : Nat → Nat → Int) (m k : Nat) : sqTo f m (k + 1) = sqTo f m k ++ [rowTo f k m] := by simp [sqTo, List.range_succ]
theorem row_sqTo {f : Nat → Nat → Int} {m k x : Nat} (h : x < k) : row (sqTo f m k) x = rowTo f x m := by simp [row, sqTo, h]
theorem nth_rowTo {f : Nat → Nat → Int} {x k y : Nat} (h : y < k) : nth (rowTo f x k) y = f x y := by simp [nth, rowTo, h]
theorem tot_sqTo (f : Nat → Nat → Int) (m k : Nat) : tot (sqTo f m k) = k * m := by
  induction k with
  | zero => simp [tot, sqTo]
  | succ k ih => rw [sqTo_succ, tot_append, ih, tot_one, length_rowTo, Nat.succ_mul]
theorem below_blk {w w' : World} {lo B : Nat} {A : Option Addr} {c : Nat} {xs : List Int} (ho : OwnI w lo A c xs) (hg : w.grownBy w' (blk A)) (hB : B ≤ lo) (hs : B ≤ w.heap.size) : Below B w w' :=
  (Below.refl B w).grown hg hs fun g e => by
    rcases ho.form with ⟨e1, _⟩ | ⟨g1, e1, hl1, _⟩
    · rw [e1] at e; simp [blk] at e
    · rw [e1, blk_some] at e; injection e with e; omega
theorem below_blkM {w w' : World} {lo B : Nat} {A : Option Addr} {c : Nat} {R : Spine} {xss : List (List Int)} (ho : OwnM w lo A c R xss) (hg : w.grownBy w' (blk A)) (hB : B ≤ lo) (hs : B ≤ w.heap.size) : Below B w w' :=
  (Below.refl B w).grown hg hs fun g e => by
    rcases ho.form with ⟨e1, _⟩ | ⟨g1, e1, hl1, _⟩
    · rw [e1] at e; simp [blk] at e
    · rw [e1, blk_some] at e; injection e with e; omega
theorem OwnM.alloc {w : World} {lo : Nat} {A : Option Addr} {c : Nat} {R : Spine} {xss : List (List Int)} (h : OwnM w lo A c R xss) (o : Obj) : OwnM (w.alloc o) lo A c R xss :=
  h.below ((Below.refl _ _).alloc (Nat.le_refl _) o)
/-- A row made later lies apart from the rows that were there. -/
theorem later_apart {w0 w : World} {lo : Nat} {A A' : Option Addr} {c c' : Nat} {R : Spine} {xss : List (List Int)} {ys : List Int} (h : OwnM w0 lo A c R xss) (hr : OwnI w w0.heap.size A' c' ys) :
    ∀ k, k < xss.length → ∀ g, (R k).1 = some ⟨g, 0, none⟩ → A' ≠ some ⟨g, 0, none⟩ := fun k hk g e e2 => by
  have h1 := ((h.rows k hk).lt e).2
  have h2 := (hr.lt e2).1
  omega

set_option maxHeartbeats 1000000 in
theorem filledSquare_c (w : World) (N : Int) (m : Nat) (g : Nat) (lb : Array Value) (f : Nat → Nat → Int) (eg : ∀ args w, (callFunc g args).run Tryz.prog w = .ok (.enter g args) w) (hN : N.toNat = m) (hm : m ≤ 1048576)
    (hp : ∀ W x y, x < m → y < m → Below w.heap.size w W → Calls Tryz.prog g (#[.int .i64 (x : Int), .int .i64 (y : Int)] ++ lb) W (PostV W (.int .i64 (f x y)))) :
    Calls Tryz.prog 95 #[.int .i64 N, .func (.func g) #[] lb] w (PostM w (sqTo f m m)) := by
  have hN1 : N ≤ (m : Int) := by omega
  have hN2 : 0 < m → N = (m : Int) := by omega
  have HN2 := Lib.hid hN2
  have HP := Lib.hid hp
  clear hN hN2 hp
  go_enter Tryz.func95, Tryz.ntmps95
  go_wp2
  go_loopw [5, 6] (fun a x wr => ∃ (k : Nat) (A : Option Addr) (c : Nat) (R : Spine), k ≤ m ∧ x = .int .i64 k ∧ a = .slice A k c ∧ OwnM wr w.heap.size A c R (sqTo f m k) ∧ Below w.heap.size w wr) (fun _ x _ => m - (intOf x).toNat)
  case atStart => exact ⟨0, none, 0, fun _ => (none, 0), Nat.zero_le _, rfl, rfl, OwnM.nil_ _ _ _, Below.refl _ _⟩
  case round =>
    obtain ⟨k, A, c, R, hk, rfl, rfl, ho, hB⟩ := hrel
    obtain ⟨wo, rfl⟩ : ∃ wo : World, wo = wr := ⟨_, rfl⟩
    have HO := Lib.hid ho
    have hz := hB.size
    clear ho
    by_cases hlt : k < m
    · have hN3 : N = (m : Int) := HN2.out (by omega)
      subst hN3
      go_wp2
      go_loopw [7, 8] (fun r y wi => ∃ (j : Nat) (A' : Option Addr) (c' : Nat), j ≤ m ∧ y = .int .i64 j ∧ r = .slice A' j c' ∧ OwnI wi wo.heap.size A' c' (rowTo f k j) ∧ Below wo.heap.size wo wi) (fun _ y _ => m - (intOf y).toNat)
      case atStart => exact ⟨0, none, 0, Nat.zero_le _, rfl, rfl, OwnI.nil_ _ _, Below.refl _ _⟩
      case round =>
        obtain ⟨j, A', c', hj, rfl, rfl, hi, hBi⟩ := hrel
        have HI := Lib.hid hi
        have hzi := hBi.size
        clear hi
        by_cases hlt2 : j < m
        · have hcall := HP.out wr k j hlt hlt2 (hB.trans (hBi.mono hz))
          have HC := Lib.hid hcall
          clear hcall
          go_wp2_with fail
          refine (HC.out).mono ?_
          rintro e w1 ⟨rfl, hb1⟩
          have HI1 := Lib.hid ((HI.out.below hb1).alloc (.cells #[.int .i64 (f k j)] 2))
          have hB1 : Below wo.heap.size wo w1 := hBi.trans (hb1.mono hzi)
          have hz1 := hB1.size
          go_wp2_with (at_builtin
                       refine wpI_append rfl _ _ rfl wo.heap.size _ _ _ (rowTo f k j) (f k j) w1.heap.size rfl rfl (length_rowTo f k j) HI1.out (World.cell?_alloc_at _ _ _ _ rfl) (by omega) (by simp; omega) ?_
                       intro A2 c2 w2 ho2 hg2 ha2)
          have hB2 : Below wo.heap.size wo w2 := (hB1.alloc hz1 _).trans (below_blk HI1.out hg2 (Nat.le_refl _) (by simp; omega))
          have HO2 := Lib.hid ho2
          have HS := Lib.hid (rowTo_succ f k j)
          clear ho2 hg2 ha2
          go_wp2
          go_roundw
          case rel => exact ⟨j + 1, A2, c2, by omega, by go_num, rfl, by rw [HS.out]; exact HO2.out, hB2⟩
          case measure => simp [intOf]; omega
        · obtain rfl : j = m := by omega
          have HO1 := Lib.hid ((HO.out.below hBi).alloc (.cells #[.slice A' j c'] 35))
          have HI1 := Lib.hid ((HI.out.lower hz).alloc (.cells #[.slice A' j c'] 35))
          have HAp := Lib.hid (later_apart HO.out HI.out)
          have hB1 : Below w.heap.size w wr := hB.trans (hBi.mono hz)
          have hz1 := hB1.size
          go_wp2_with (at_builtin
                       refine wpM_append rfl _ _ rfl w.heap.size _ _ _ R (sqTo f j k) A' j c' (rowTo f k j) wr.heap.size rfl rfl (length_sqTo f j k) (length_rowTo f k j) HO1.out HI1.out HAp.out (World.cell?_alloc_at _ _ _ _ rfl) (by omega) (by simp; omega) ?_
                       intro A2 c2 R2 w2 ho2 hg2 ha2)
          have hB2 : Below w.heap.size w w2 := (hB1.alloc hz1 _).trans (below_blkM HO1.out hg2 (Nat.le_refl _) (by simp; omega))
          have HO2 := Lib.hid ho2
          have HS := Lib.hid (sqTo_succ f j k)
          clear ho2 hg2 ha2
          go_wp2
          go_roundw
          case rel => exact ⟨k + 1, A2, c2, R2, by omega, by go_num, rfl, by rw [HS.out]; exact HO2.out, hB2⟩
          case measure => simp [intOf]; omega
    · obtain rfl : k = m := by omega
      have HL := Lib.hid (length_sqTo f k k)
      go_wp2
      go_ret
      exact ⟨⟨A, k, c, R, rfl, HL.out, HO.out⟩, hB⟩
end Go.Proofs.YtmmkmkbpgcbehaaGreat
