/-
  Designs that are put together: sorted of the program, l10Make of the reference. Conditions: those of each theorem.
-/
import Derived.Test.YtmmkmkbpgcbehaaGreatIns2
import Derived.Test.YtmmkmkbpgcbehaaGreatStepM
import Derived.Test.YtmmkmkbpgcbehaaGreatGb
import Derived.Test.YtmmkmkbpgcbehaaGreatGa
namespace Go.Proofs.YtmmkmkbpgcbehaaGreat
open Go.RowKit
set_option linter.unusedVariables false
set_option linter.unusedSimpArgs false

theorem zeroD (w : World) : (zeroValue 28).run Tryz.prog w = .ok (.agg #[.int .i64 0, .slice none 0 0]) w := by kernel_rfl
/-- The box of a result that is a design, as it was made. -/
structure RBox (w : World) (B : Nat) : Prop where
  c0 : w.cell? ⟨B, 0, none⟩ = some (.int .i64 0)
  c1 : w.cell? ⟨B, 1, none⟩ = some (.slice none 0 0)
  f0 : w.frozen? ⟨B, 0, none⟩ = false
  f1 : w.frozen? ⟨B, 1, none⟩ = false
theorem RBox.made (w : World) (T : TypeId) : RBox (w.alloc (.cells #[.int .i64 0, .slice none 0 0] T)) w.heap.size := by
  constructor <;> simp [go_sem]
theorem RBox.lt {w : World} {B : Nat} (h : RBox w B) : B < w.heap.size := cell_size h.c0
theorem RBox.step {w w' : World} {B lo : Nat} (h : RBox w B) (hl : B < lo) (hb : Below lo w w') : RBox w' B :=
  ⟨(hb.cell (p := ⟨B, 0, none⟩) hl).trans h.c0, (hb.cell (p := ⟨B, 1, none⟩) hl).trans h.c1, (hb.frozen (p := ⟨B, 0, none⟩) hl).trans h.f0, (hb.frozen (p := ⟨B, 1, none⟩) hl).trans h.f1⟩
theorem RBox.drewN {w : World} {B : Nat} (h : RBox w B) (n : Nat) : RBox (w.drewN n) B := ⟨h.c0, h.c1, h.f0, h.f1⟩
theorem RBox.read {w : World} {B : Nat} (h : RBox w B) (u0 u1 : Value) :
    ((w.setCell ⟨B, 0, none⟩ u0).setCell ⟨B, 1, none⟩ u1).cell? ⟨B, 0, none⟩ = some u0 ∧ ((w.setCell ⟨B, 0, none⟩ u0).setCell ⟨B, 1, none⟩ u1).cell? ⟨B, 1, none⟩ = some u1 := by
  have hne : ∀ (W : World) (i j : Nat) (u : Value), i ≠ j → (W.setCell ⟨B, i, none⟩ u).cell? ⟨B, j, none⟩ = W.cell? ⟨B, j, none⟩ := fun W i j u h => World.cell?_setCell_other _ _ _ _ (by intro e; injection e with e1 e2; exact h (by omega))
  have heq : ∀ (W : World) (i : Nat) (u v : Value), W.cell? ⟨B, i, none⟩ = some v → (W.setCell ⟨B, i, none⟩ u).cell? ⟨B, i, none⟩ = some u := fun W i u v h => World.cell?_setCell_same' _ _ _ (by rw [h]; rfl)
  refine ⟨?_, ?_⟩
  · rw [hne _ _ _ _ (by omega)]
    exact heq _ _ _ _ h.c0
  · exact heq _ _ _ (.slice none 0 0) (by rw [hne _ _ _ _ (by omega)]; exact h.c1)
theorem OwnM.of_blk {w : World} {lo : Nat} {A : Option Addr} {c : Nat} {R : Spine} {xss : List (List Int)} (h : OwnM w lo A c R xss) {g : Nat} (e : blk A = some g) : lo ≤ g ∧ g < w.heap.size := by
  rcases h.form with ⟨e1, _⟩ | ⟨g', e1, h1, h2, _⟩
  · rw [e1] at e; simp [blk] at e
  · rw [e1, blk_some] at e; injection e with e; subst e; exact ⟨h1, h2⟩
theorem below_set2 {B g : Nat} {w w' : World} {u0 u1 : Value} (h : Below B w w') (hg : B ≤ g) : Below B w ((w'.setCell ⟨g, 0, none⟩ u0).setCell ⟨g, 1, none⟩ u1) :=
  (h.setCell hg _).setCell hg _
theorem own_set2 {w : World} {B lo : Nat} {A : Option Addr} {c : Nat} {R : Spine} {xss : List (List Int)} (ho : OwnM w (B + 1) A c R xss) (hl : lo ≤ B + 1) (u0 u1 : Value) :
    OwnM ((w.setCell ⟨B, 0, none⟩ u0).setCell ⟨B, 1, none⟩ u1) lo A c R xss :=
  (ho.in_.step (fun k h1 h2 => by
    have : B + 1 ≤ k := h1
    rw [Below.heap_setCell _ _ _ _ (by show k ≠ B; omega), Below.heap_setCell _ _ _ _ (by show k ≠ B; omega)])).own.lower hl

set_option maxRecDepth 100000 in
set_option maxHeartbeats 4000000 in
/-- copyLists: the rows in new memory. -/
theorem copyLists_c (w : World) (A : Option Addr) (n c : Nat) (R : Spine) (xss : List (List Int)) (hr : RdM w A c R xss) (hn : xss.length = n) (hz : n ≤ 1048576) (hz2 : ∀ k, k < n → (row xss k).length ≤ 1048576) :
    Calls Tryz.prog 38 #[.slice A n c] w (PostM w xss) := by
  have HR := Lib.hid hr
  have HN := Lib.hid hn
  have HCl := Lib.hid (fun (W : World) (hb : Below w.heap.size w W) (k : Nat) (hk : k < xss.length) => Clone_n W (R k).1 (row xss k).length (R k).2 (row xss k) ((hr.below hb).rows k hk) rfl (hz2 k (by omega)))
  have H0 := Lib.hid (OwnM.nil_ w w.heap.size (fun _ => (none, 0)))
  clear hr hn hz2
  go_enter Tryz.func38, Tryz.ntmps38
  go_wp2
  go_loopw [3, 8] (fun o i wr => ∃ (k : Nat) (A' : Option Addr) (c' : Nat) (R' : Spine), k ≤ n ∧ i = .int .i64 k ∧ o = .slice A' k c' ∧ Hid (OwnM wr w.heap.size A' c' R' (xss.take k)) ∧ Hid (Below w.heap.size w wr)) (fun _ i _ => n - (intOf i).toNat)
  case atStart => exact ⟨0, _, _, _, Nat.zero_le _, rfl, rfl, H0, Lib.hid (Below.refl _ _)⟩
  case round =>
    obtain ⟨k, A', c', R', hk, rfl, rfl, HO, HB⟩ := hrel
    by_cases hlt : k < n
    · have hkx : k < xss.length := by rw [HN.out]; exact hlt
      obtain ⟨b, off, e, hb, hc⟩ := HR.out.at_ k hkx
      subst e
      have hcc := (HB.out.cell (p := ⟨b, off + k, none⟩) hb).trans hc
      have HCk := Lib.hid (HCl.out wr HB.out k hkx)
      have HSu := Lib.hid (show xss.take (k + 1) = xss.take k ++ [row xss k] by rw [List.take_add_one, List.getElem?_eq_getElem hkx, row_eq hkx]; rfl)
      have HTl := Lib.hid (show (xss.take k).length = k by rw [List.length_take]; omega)
      clear hc
      go_wp2_with fail
      refine (HCk.out).mono ?_
      rintro e w4 ⟨⟨A4, n4, c4, rfl, hn4, ho4⟩, hb4⟩
      have hzr : w.heap.size ≤ wr.heap.size := HB.out.size
      have hB4 : Below w.heap.size w w4 := HB.out.trans (hb4.mono hzr)
      have hz4 := hB4.size
      have HN4 := Lib.hid hn4
      have HX4 := Lib.hid ((ho4.lower (lo' := w.heap.size) hzr).alloc (.cells #[.slice A4 n4 c4] 35))
      have HE4 := Lib.hid ((HO.out.below hb4).alloc (.cells #[.slice A4 n4 c4] 35))
      have HAp4 := Lib.hid (later_apart HO.out ho4)
      have HB4 := Lib.hid (hB4.alloc hz4 (.cells #[.slice A4 n4 c4] 35))
      clear hn4 ho4 hb4 hB4 hzr
      go_wp2_with (at_builtin
                   refine wpM_append rfl _ _ rfl w.heap.size _ _ _ R' (xss.take k) A4 n4 c4 (row xss k) w4.heap.size rfl rfl (HTl.out) HN4.out HE4.out HX4.out HAp4.out (World.cell?_alloc_at _ _ _ _ rfl) (by omega) (by simp; omega) ?_
                   intro A5 c5 R5 w5 ho5 hg5 ha5)
      have HB5 := Lib.hid (HB4.out.trans (below_blkM HE4.out hg5 (Nat.le_refl _) (by simp; omega)))
      have HO5 := Lib.hid ho5
      clear ho5 hg5 ha5
      have HO6 := Lib.hid (show OwnM w5 w.heap.size A5 c5 R5 (xss.take (k + 1)) from by rw [HSu.out]; exact HO5.out)
      clear hz4
      go_wp2
      go_roundw
      case rel => exact ⟨k + 1, A5, c5, R5, by omega, by go_num, rfl, HO6, HB5⟩
      case measure => simp [intOf]; omega
    · obtain rfl : k = n := by omega
      have HOf := Lib.hid (show OwnM wr w.heap.size A' c' R' xss from by have := HO.out; rwa [List.take_of_length_le (by rw [HN.out]; exact Nat.le_refl _)] at this)
      go_wp2
      go_ret
      exact ⟨⟨A', k, c', R', rfl, HN.out, HOf.out⟩, HB.out⟩

def mkP (p : Int) (xss : List (List Int)) : Int := if xss.length ≤ 128 then p else 0
def mkL (xss : List (List Int)) : List (List Int) := if xss.length ≤ 128 then sortLL xss else []
def mkC (xss : List (List Int)) : Int := if xss.length ≤ 128 then 0 else 5

set_option maxRecDepth 100000 in
set_option maxHeartbeats 4000000 in
/-- sorted: the design with some blocks. -/
theorem sorted_c (w : World) (p : Int) (A : Option Addr) (n c : Nat) (R : Spine) (xss : List (List Int)) (hr : RdM w A c R xss) (hn : xss.length = n) (hz : n ≤ 1048576) (hz2 : ∀ k, k < n → (row xss k).length ≤ 1048576) :
    Calls Tryz.prog 40 #[.int .i64 p, .slice A n c] w (PostDC w (mkP p xss) (mkL xss) (mkC xss)) := by
  have hzD := zeroD
  by_cases h128 : n ≤ 128
  · have hd : (128 : Int) < (n : Int) ↔ False := by simp; omega
    have hdc : decide ((128 : Int) < (n : Int)) = false := by simp; omega
    rw [show mkP p xss = p by unfold mkP; rw [if_pos (by omega)], show mkL xss = sortLL xss by unfold mkL; rw [if_pos (by omega)], show mkC xss = 0 by unfold mkC; rw [if_pos (by omega)]]
    have HCp := Lib.hid (copyLists_c (w.alloc (.cells #[.int .i64 0, .slice none 0 0] 28)) A n c R xss (hr.below (below_boxed _ _)) hn hz hz2)
    have HZ := Lib.hid (RBox.made w 28)
    have HB0 := Lib.hid (below_boxed w (.cells #[.int .i64 0, .slice none 0 0] 28))
    have HX128 := Lib.hid (show xss.length ≤ 128 by omega)
    clear hr hn hz2 hd
    go_enter Tryz.func40, Tryz.ntmps40
    go_wp2_with fail
    refine (HCp.out).mono ?_
    rintro e w2 ⟨⟨A2, n2, c2, R2, rfl, hn2, ho2⟩, hb2⟩
    have hz2' : w.heap.size + 1 ≤ w2.heap.size := by have := hb2.size; simpa using this
    have ho2' : OwnM w2 (w.heap.size + 1) A2 c2 R2 xss := ho2.lower (by simp)
    have HO3 := Lib.hid (ho2'.alloc (.cells #[.int .i64 p, .slice A2 n2 c2] 28))
    have HL2 := Lib.hid (fun g (e : blk A2 = some g) => ho2'.of_blk e)
    have HN2 := Lib.hid hn2
    have HX := Lib.hid (BoxD.made w2 p A2 n2 c2 28)
    have HZ2 := Lib.hid ((HZ.out.step (lo := w.heap.size + 1) (by omega) (hb2.mono (by simp))).step (lo := w2.heap.size) (by omega) (below_boxed w2 (.cells #[.int .i64 p, .slice A2 n2 c2] 28)))
    have HB2 := Lib.hid ((HB0.out.trans (hb2.mono HB0.out.size)).alloc (by omega) (.cells #[.int .i64 p, .slice A2 n2 c2] 28))
    have hn2k : n2 ≤ 128 := by rw [← hn2]; exact HX128.out
    have hsz : (w2.alloc (.cells #[.int .i64 p, .slice A2 n2 c2] 28)).heap.size = w2.heap.size + 1 := by simp
    have hx0 := HX.out.c0
    have hx1 := HX.out.c1
    have HSo := Lib.hid (sortM_c _ HO3.out hn2 (by omega))
    clear hn2 ho2 hb2 ho2'
    go_wp2_with fail
    refine (HSo.out).mono ?_
    rintro e w4 ⟨rfl, ⟨R4, ho4⟩, hg4⟩
    have hb4 : Below (w.heap.size + 1) (w2.alloc (.cells #[.int .i64 p, .slice A2 n2 c2] 28)) w4 := below_blkM HO3.out hg4 (Nat.le_refl _) (by simp; omega)
    have hblk : w4.heap[w2.heap.size]? = (w2.alloc (.cells #[.int .i64 p, .slice A2 n2 c2] 28)).heap[w2.heap.size]? := hg4.block _ (by simp) (fun e => by have := HL2.out _ e.symm; omega)
    have hy0 : w4.cell? ⟨w2.heap.size, 0, none⟩ = some (.int .i64 p) := (World.cell?_of_block (w := w2.alloc (.cells #[.int .i64 p, .slice A2 n2 c2] 28)) hblk).trans hx0
    have hy1 : w4.cell? ⟨w2.heap.size, 1, none⟩ = some (.slice A2 n2 c2) := (World.cell?_of_block (w := w2.alloc (.cells #[.int .i64 p, .slice A2 n2 c2] 28)) hblk).trans hx1
    have hZ4 := HZ2.out.step (lo := w.heap.size + 1) (by omega) hb4
    have HO4 := Lib.hid ho4
    have HB4 := Lib.hid (HB2.out.trans (hb4.mono (by omega)))
    have HN4 := Lib.hid (show (sortLL xss).length = n2 from by rw [sortLL_len]; exact HN2.out)
    have HZ4 := Lib.hid hZ4
    have z0 := hZ4.c0
    have z1 := hZ4.c1
    have y0 := hZ4.f0
    have y1 := hZ4.f1
    clear hx0 hx1 hb4 hblk hg4 ho4 hZ4 HSo
    go_wp2
    obtain ⟨r0, r1⟩ := HZ4.out.read (.int .i64 p) (.slice A2 n2 c2)
    refine bodyPost_ret (v := .tuple #[.agg #[.int .i64 p, .slice A2 n2 c2], .int .i64 0]) (by simp [results, Tryz.results40, go_sem, r0, r1]) rfl ⟨⟨A2, n2, c2, R4, rfl, HN4.out, own_set2 HO4.out (by omega) _ _⟩, below_set2 HB4.out (Nat.le_refl _)⟩
  · have hd : (128 : Int) < (n : Int) := by omega
    have hdc : decide ((128 : Int) < (n : Int)) = true := by simp; omega
    have hd2 : 128 < n := by omega
    rw [show mkP p xss = 0 by unfold mkP; rw [if_neg (by omega)], show mkL xss = [] by unfold mkL; rw [if_neg (by omega)], show mkC xss = 5 by unfold mkC; rw [if_neg (by omega)]]
    have HZ := Lib.hid (RBox.made w 28)
    have HB0 := Lib.hid (below_boxed w (.cells #[.int .i64 0, .slice none 0 0] 28))
    clear hr hn hz2 h128
    go_enter Tryz.func40, Tryz.ntmps40
    go_wp2
    obtain ⟨r0, r1⟩ := HZ.out.read (.int .i64 0) (.slice none 0 0)
    refine bodyPost_ret (v := .tuple #[.agg #[.int .i64 0, .slice none 0 0], .int .i64 5]) (by simp [results, Tryz.results40, go_sem, r0, r1]) rfl ⟨⟨none, 0, 0, fun _ => (none, 0), rfl, rfl, OwnM.nil_ _ _ _⟩, ?_⟩
    first | exact HB0.out | exact below_set2 HB0.out (Nat.le_refl _)

end Go.Proofs.YtmmkmkbpgcbehaaGreat
