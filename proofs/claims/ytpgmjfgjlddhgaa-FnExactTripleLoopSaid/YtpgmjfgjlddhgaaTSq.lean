/-
  TripleSquare: the square of a triple system, as the program and the reference make it; l06Zero. Conditions: those of each theorem.
-/
import Derived.Test.YtpgmjfgjlddhgaaThird
import Derived.Deep.RegionHeld3
namespace Go.Proofs.Ytpgmjfgjlddhgaa
open Go.RowKit Go.Deep
set_option linter.unusedVariables false
set_option linter.unusedSimpArgs false

def zeroF (_ _ : Nat) : Int := 0
set_option maxHeartbeats 1000000 in
theorem l06Zero_c (w : World) (a b : Nat) (ha : a ≤ 1048576) (hb : b ≤ 1048576) :
    Calls Try.prog 56 #[.int .i64 (a : Int), .int .i64 (b : Int)] w (PostM w (sqTo zeroF b a)) := by
  have H0 := Lib.hid (OwnM.lit0 w (Nat.le_refl w.heap.size) (fun _ => (none, 0)))
  have hmk := fun W : World => run_make_row' (P := Try.prog) 35 2 (.int .i64 0) 8 Try.underlying35 infoI rfl .i64 .i64 b (by omega) (by omega) W
  go_enter Try.func56, Try.ntmps56
  go_wp2
  go_loopw [5, 6] (fun o i wr => ∃ (k : Nat) (A' : Option Addr) (c' : Nat) (R' : Spine), k ≤ a ∧ i = .int .i64 k ∧ o = .slice A' k c' ∧ Hid (OwnM wr w.heap.size A' c' R' (sqTo zeroF b k)) ∧ Hid (Below w.heap.size w wr)) (fun _ i _ => a - (intOf i).toNat)
  case atStart => exact ⟨0, _, _, _, Nat.zero_le _, rfl, rfl, H0, Lib.hid ((Below.refl _ _).alloc (Nat.le_refl _) _)⟩
  case round =>
    obtain ⟨k, A', c', R', hk, rfl, rfl, HO, HB⟩ := hrel
    have hz1 := HB.out.size
    by_cases hlt : k < a
    · have hB1 : Below w.heap.size w ((wr.alloc (.cells (madeCells #[.int .i64 0] b) 2)).alloc (.cells #[.slice (some ⟨wr.heap.size, 0, none⟩) b b] 35)) := (HB.out.alloc hz1 _).alloc (by simp; omega) _
      have hi0 := OwnI.made wr b (by unfold maxLen; omega) (Nat.le_refl wr.heap.size)
      rw [show List.replicate b (0 : Int) = rowTo zeroF k b by
        apply List.ext_getElem
        · rw [length_rowTo]; simp
        · intro j h1 h2
          have h3 : j < b := by simpa using h1
          simp [rowTo, zeroF]] at hi0
      have HI1 := Lib.hid ((hi0.lower hz1).alloc (.cells #[.slice (some ⟨wr.heap.size, 0, none⟩) b b] 35))
      have HO1 := Lib.hid ((HO.out.alloc (.cells (madeCells #[.int .i64 0] b) 2)).alloc (.cells #[.slice (some ⟨wr.heap.size, 0, none⟩) b b] 35))
      have HAp := Lib.hid (later_apart HO.out hi0)
      have hsz : (wr.alloc (.cells (madeCells #[.int .i64 0] b) 2)).heap.size = wr.heap.size + 1 := by simp
      clear hi0
      go_wp2_with (at_builtin
                   refine wpM_append rfl _ _ rfl w.heap.size _ _ _ R' (sqTo zeroF b k) (some ⟨wr.heap.size, 0, none⟩) b b (rowTo zeroF k b) (wr.heap.size + 1) rfl rfl (length_sqTo zeroF b k) (length_rowTo zeroF k b) HO1.out HI1.out HAp.out (World.cell?_alloc_at _ _ _ _ hsz.symm) (by omega) (by simp; omega) ?_
                   intro A2 c2 R2 w2 ho2 hg2 ha2)
      have HB2 := Lib.hid (hB1.trans (below_blkM HO1.out hg2 (Nat.le_refl _) (by simp; omega)))
      have HO2 := Lib.hid ho2
      have HS := Lib.hid (sqTo_succ zeroF b k)
      clear ho2 hg2 ha2 hB1
      go_wp2
      go_roundw
      case rel => exact ⟨k + 1, A2, c2, R2, by omega, by go_num, rfl, by rw [HS.out]; exact HO2, HB2⟩
      case measure => simp [intOf]; omega
    · obtain rfl : k = a := by omega
      have HL := Lib.hid (length_sqTo zeroF b k)
      go_wp2
      go_ret
      exact ⟨⟨A', k, c', R', rfl, HL.out, HO.out⟩, HB.out⟩

noncomputable def tsM (p : Int) (xss : List (List Int)) : List (List Int) := if tripB p xss = true ∧ p ≤ 10 then sqTo (thF xss xss.length) p.toNat p.toNat else []
noncomputable def tsC (p : Int) (xss : List (List Int)) : Int := if tripB p xss = true then (if p ≤ 10 then 0 else 5) else 1
theorem TripleSquare_small (p : Int) (xss : List (List Int)) : (tsM p xss).length ≤ 1048576 ∧ tot (tsM p xss) ≤ 1048576 := by
  unfold tsM
  split
  · next h =>
    have : p.toNat ≤ 10 := by omega
    rw [length_sqTo, tot_sqTo]
    exact ⟨by omega, Nat.le_trans (Nat.mul_le_mul this this) (by omega)⟩
  · simp [tot]

set_option maxHeartbeats 4000000 in
theorem implTripleSquare_c (w : World) (p : Int) (hp : -9223372036854775808 ≤ p ∧ p ≤ 9223372036854775807) (A : Option Addr) (n c : Nat) (R : Spine) (xss : List (List Int)) (hr : RdM w A c R xss) (hn : xss.length = n) (hw : WfM xss) (hz : (n : Int) + (tot xss : Nat) ≤ 1048576) :
    Calls Try.prog 18 #[.agg #[.int .i64 p, .slice A n c]] w (PostMC w (tsM p xss) (tsC p xss)) := by
  have hB0 := below_boxed w (.cells #[.int .i64 p, .slice A n c] 28)
  have hX := BoxD.made w p A n c 28
  have hO := IsTriple_c _ p A n c R xss (hr.below hB0) hn
  have HB0 := Lib.hid hB0
  have HX := Lib.hid hX
  clear hp hw hz
  rcases hd : tripB p xss with _ | _
  · rw [hd] at hO
    rw [show tsM p xss = [] by simp [tsM, hd], show tsC p xss = 1 by simp [tsC, hd]]
    have HO := Lib.hid hO
    clear hO hd hX hB0 hr hn
    go_enter Try.func18, Try.ntmps18
    go_wp2_with fail
    refine (HO.out).mono ?_
    rintro e w2 ⟨rfl, hb2⟩
    have HB2 := Lib.hid (HB0.out.trans (hb2.mono HB0.out.size))
    clear hb2
    go_wp2
    go_ret2
    exact ⟨⟨none, 0, 0, fun _ => (none, 0), rfl, rfl, OwnM.nil_ _ _ _⟩, HB2.out⟩
  rw [hd] at hO
  have hT := trip_dsg hd
  obtain ⟨P, rfl⟩ : ∃ P : Nat, p = (P : Int) := ⟨p.toNat, by have := hT.1.1.1; omega⟩
  obtain ⟨hD, hTs⟩ := trip_sys hd
  have hP1 : 1 ≤ P := by have := hD.1.1; omega
  have hP2 : P ≤ 32 := by have := hD.1.2; omega
  have HO := Lib.hid hO
  by_cases h10 : P ≤ 10
  · rw [show tsM (P : Int) xss = sqTo (thF xss xss.length) P P by unfold tsM; rw [if_pos ⟨hd, by omega⟩]; rfl, show tsC (P : Int) xss = 0 by unfold tsC; rw [if_pos hd, if_pos (by omega)]]
    have HC := Lib.hid (fun (W : World) (hb : Below w.heap.size w W) => thirdPoints_c W P A n c R xss (hr.below hb) hn hD hTs)
    clear hO hd hX hB0 hr hn hD hTs hT
    generalize sqTo (thF xss xss.length) P P = T at *
    go_enter Try.func18, Try.ntmps18
    go_wp2_with fail
    refine (HO.out).mono ?_
    rintro e w2 ⟨rfl, hb2⟩
    have HB2 := Lib.hid (HB0.out.trans (hb2.mono HB0.out.size))
    have hx := HX.out.below hb2
    have hc0 := hx.c0
    have hc1 := hx.c1
    clear hb2 hx
    go_wp2_with fail
    refine (HC.out _ HB2.out).mono ?_
    rintro e w4 ⟨⟨A4, n4, c4, R4, rfl, hn4, ho4⟩, hb4⟩
    have HB4 := Lib.hid (HB2.out.trans (hb4.mono HB2.out.size))
    have HO4 := Lib.hid (ho4.lower (lo' := w.heap.size) HB2.out.size)
    have HN4 := Lib.hid hn4
    clear hn4 ho4 hb4
    go_wp2
    go_ret2
    exact ⟨⟨A4, n4, c4, R4, rfl, HN4.out, HO4.out⟩, HB4.out⟩
  · rw [show tsM (P : Int) xss = [] by unfold tsM; rw [if_neg (fun h => h10 (by omega))], show tsC (P : Int) xss = 5 by unfold tsC; rw [if_pos hd, if_neg (by omega)]]
    clear hO hd hX hB0 hr hn hD hTs hT
    go_enter Try.func18, Try.ntmps18
    go_wp2_with fail
    refine (HO.out).mono ?_
    rintro e w2 ⟨rfl, hb2⟩
    have HB2 := Lib.hid (HB0.out.trans (hb2.mono HB0.out.size))
    have hx := HX.out.below hb2
    have hc0 := hx.c0
    have hc1 := hx.c1
    clear hb2 hx
    go_wp2
    go_ret2
    exact ⟨⟨none, 0, 0, fun _ => (none, 0), rfl, rfl, OwnM.nil_ _ _ _⟩, HB2.out⟩

/-- The square, written row by row. -/
def tqF (f : Nat → Nat → Int) (x y : Nat) : Nat → Nat → Int := fun i j => if i < x ∨ (i = x ∧ j < y) then f i j else 0
theorem tqF_set (f : Nat → Nat → Int) (x y : Nat) : upd (tqF f x y) x y (f x y) = tqF f x (y + 1) := by
  funext i j
  unfold upd tqF
  by_cases e : i = x ∧ j = y
  · obtain ⟨rfl, rfl⟩ := e
    rw [if_pos ⟨rfl, rfl⟩, if_pos (by omega)]
  · rw [if_neg e]
    by_cases h : i < x ∨ (i = x ∧ j < y)
    · rw [if_pos h, if_pos (by omega)]
    · rw [if_neg h, if_neg (by omega)]
theorem upd_upd (f : Nat → Nat → Int) (x y : Nat) (u v : Int) : upd (upd f x y u) x y v = upd f x y v := by
  funext i j
  unfold upd
  by_cases e : i = x ∧ j = y
  · rw [if_pos e, if_pos e]
  · rw [if_neg e, if_neg e, if_neg e]
theorem tqF_row (f : Nat → Nat → Int) (x P : Nat) : sqTo (tqF f x P) P P = sqTo (tqF f (x + 1) 0) P P := sqTo_congr fun i j _ hj => by
  unfold tqF
  by_cases h : i < x ∨ (i = x ∧ j < P)
  · rw [if_pos h, if_pos (by omega)]
  · rw [if_neg h, if_neg (by omega)]
theorem tqF_zero (f : Nat → Nat → Int) (P : Nat) : sqTo zeroF P P = sqTo (tqF f 0 0) P P := sqTo_congr fun i j _ _ => by
  unfold tqF zeroF
  rw [if_neg (by omega)]
theorem tqF_all (f : Nat → Nat → Int) (P : Nat) : sqTo (tqF f P 0) P P = sqTo f P P := sqTo_congr fun i j hi _ => by
  unfold tqF
  rw [if_pos (by omega)]

set_option maxRecDepth 100000 in
set_option maxHeartbeats 4000000 in
theorem specTripleSquare_c (w : World) (p : Int) (hp : -9223372036854775808 ≤ p ∧ p ≤ 9223372036854775807) (A : Option Addr) (n c : Nat) (R : Spine) (xss : List (List Int)) (hr : RdM w A c R xss) (hn : xss.length = n) (hw : WfM xss) (hz : (n : Int) + (tot xss : Nat) ≤ 1048576) :
    Calls Try.prog 16 #[.agg #[.int .i64 p, .slice A n c]] w (PostMC w (tsM p xss) (tsC p xss)) := by
  have hB0 := below_boxed w (.cells #[.int .i64 p, .slice A n c] 28)
  have hX := BoxD.made w p A n c 28
  have hO := l11Ok_c _ w.heap.size p A n c R xss hX (hr.below hB0) hn
  have HB0 := Lib.hid hB0
  have HX := Lib.hid hX
  clear hp hw hz
  rcases hd : tripB p xss with _ | _
  · rw [hd] at hO
    rw [show tsM p xss = [] by simp [tsM, hd], show tsC p xss = 1 by simp [tsC, hd]]
    have HO := Lib.hid hO
    clear hO hd hX hB0 hr hn
    go_enter Try.func16, Try.ntmps16
    go_wp2_with fail
    refine (HO.out).mono ?_
    rintro e w2 ⟨rfl, hb2⟩
    have HB2 := Lib.hid (HB0.out.trans (hb2.mono HB0.out.size))
    clear hb2
    go_wp2
    go_ret2
    exact ⟨⟨none, 0, 0, fun _ => (none, 0), rfl, rfl, OwnM.nil_ _ _ _⟩, HB2.out⟩
  rw [hd] at hO
  have hT := trip_dsg hd
  obtain ⟨P, rfl⟩ : ∃ P : Nat, p = (P : Int) := ⟨p.toNat, by have := hT.1.1.1; omega⟩
  obtain ⟨hD, hTs⟩ := trip_sys hd
  have hP1 : 1 ≤ P := by have := hD.1.1; omega
  have hP2 : P ≤ 32 := by have := hD.1.2; omega
  have HO := Lib.hid hO
  by_cases h10 : P ≤ 10
  · rw [show tsM (P : Int) xss = sqTo (thF xss xss.length) P P by unfold tsM; rw [if_pos ⟨hd, by omega⟩]; rfl, show tsC (P : Int) xss = 0 by unfold tsC; rw [if_pos hd, if_pos (by omega)]]
    have HT := Lib.hid (fun (W : World) (hx : BoxD W w.heap.size (P : Int) A n c) (hb : Below w.heap.size w W) (x y : Nat) (hne : x ≠ y) (hx1 : x < P) (hy1 : y < P) => l11Third_c W w.heap.size P A n c R xss hx (hr.below hb) hn hD hTs x y hne hx1 hy1)
    have HSame := Lib.hid (show ∀ x, thF xss xss.length x x = (x : Int) from fun x => by unfold thF; rw [if_pos rfl])
    clear hO hd hX hB0 hr hn hD hTs hT
    generalize thF xss xss.length = f at *
    go_enter Try.func16, Try.ntmps16
    go_wp2_with fail
    refine (HO.out).mono ?_
    rintro e w2 ⟨rfl, hb2⟩
    have hz2 : w.heap.size + 1 ≤ w2.heap.size := by have := hb2.size; simpa using this
    have HX2 := Lib.hid (HX.out.below hb2)
    have HB2 := Lib.hid (HB0.out.trans (hb2.mono HB0.out.size))
    have hc0 := HX2.out.c0
    clear hb2
    go_wp2_with fail
    refine (l06Zero_c w2 P P (by omega) (by omega)).mono ?_
    rintro e w3 ⟨⟨A3, n3, c3, R3, rfl, hn3, ho3⟩, hb3⟩
    obtain rfl : n3 = P := by rw [length_sqTo] at hn3; exact hn3.symm
    obtain ⟨G3, eA3, _, _, _, _⟩ := ho3.at_ (k := 0) (by rw [length_sqTo]; omega)
    subst eA3
    have HO3 := Lib.hid (show OwnM w3 (w.heap.size + 1) (some ⟨G3, 0, none⟩) c3 R3 (sqTo (tqF f 0 0) n3 n3) from by rw [← tqF_zero]; exact ho3.lower hz2)
    have HX3 := Lib.hid (HX2.out.below hb3)
    have HB3 := Lib.hid (HB2.out.trans (hb3.mono HB2.out.size))
    have hz3 : w.heap.size + 1 ≤ w3.heap.size := by have := hb3.size; omega
    clear hc0 hn3 ho3 hb3
    go_wp2
    go_loopw [5, 6] (fun i _ wr => ∃ x : Nat, x ≤ n3 ∧ i = .int .i64 x ∧ Hid (OwnM wr (w.heap.size + 1) (some ⟨G3, 0, none⟩) c3 R3 (sqTo (tqF f x 0) n3 n3)) ∧ Hid (Below (w.heap.size + 1) w3 wr)) (fun i _ _ => n3 - (intOf i).toNat)
    case atStart => exact ⟨0, Nat.zero_le _, rfl, HO3, Lib.hid (Below.refl _ _)⟩
    case round =>
      obtain ⟨x, hx, rfl, HOx, HBx⟩ := hrel
      have hbx := HX3.out.step (lo := w.heap.size + 1) (by omega) HBx.out
      have hc1 := hbx.c0
      obtain ⟨wo, hwo⟩ : ∃ wo, wo = wr := ⟨_, rfl⟩
      rw [← hwo] at HBx HOx hc1 ⊢
      clear hwo hbx
      by_cases hlx : x < n3
      · go_wp2
        clear hc1
        go_loopw [6] (fun i wr => ∃ y : Nat, y ≤ n3 ∧ i = .int .i64 y ∧ Hid (OwnM wr (w.heap.size + 1) (some ⟨G3, 0, none⟩) c3 R3 (sqTo (tqF f x y) n3 n3)) ∧ Hid (Below (w.heap.size + 1) w3 wr)) (fun i _ => n3 - (intOf i).toNat)
        case atStart => exact ⟨0, Nat.zero_le _, rfl, HOx, HBx⟩
        case round =>
          obtain ⟨y, hy, rfl, HOy, HBy⟩ := hrel
          have hbx := HX3.out.step (lo := w.heap.size + 1) (by omega) HBy.out
          have hc1 := hbx.c0
          by_cases hly : y < n3
          · obtain ⟨g, g', eg, er, hlo, hgs, hg1, hg2⟩ := HOy.out.sq_row (i := x) hlx (by omega)
            injection eg with eg
            injection eg with eg
            subst eg
            obtain ⟨hq1, hf1⟩ := hg2 y hly
            have hst := HOy.out.sq_store hlx hly er (x : Int)
            have HB5 := Lib.hid (HBy.out.setCell (p := ⟨g', y, none⟩) hlo (.int .i64 (x : Int)))
            by_cases hxy : x = y
            · have hne : ((x : Int) != (y : Int)) = false := by simp [hxy]
              rw [show (x : Int) = f x y by rw [← hxy]; exact (HSame.out x).symm, tqF_set] at hst
              have HO5 := Lib.hid hst
              rw [show f x y = (x : Int) by rw [← hxy]; exact HSame.out x] at HO5
              clear hst hg2 hxy
              go_wp2
              go_roundw
              case rel => exact ⟨y + 1, by omega, by go_num, HO5, HB5⟩
              case measure => simp [intOf]; omega
            · have hne : ((x : Int) != (y : Int)) = true := by rw [bne_iff_ne]; omega
              have HO5 := Lib.hid hst
              clear hst hg2
              go_wp2
              clear hc1 hq1 hf1 hg1 hbx
              generalize wr.setCell ⟨g', y, none⟩ (.int .i64 (x : Int)) = w5 at *
              obtain ⟨g, g2, eg, er2, hlo2, hgs2, hg1, hg2⟩ := HO5.out.sq_row (i := x) hlx (by omega)
              injection eg with eg
              injection eg with eg
              subst eg
              obtain ⟨hq1, hf1⟩ := hg2 y hly
              have HTq := Lib.hid (fun (W : World) (hb : Below (w.heap.size + 1) w3 W) => HT.out W (HX3.out.step (lo := w.heap.size + 1) (by omega) hb) (HB3.out.trans (hb.mono (by omega))) x y hxy hlx hly)
              have hx0 : (0 : Int) ≤ (x : Int) := by omega
              have hx1 : (x : Int) < (n3 : Int) := by omega
              have hy0 : (0 : Int) ≤ (y : Int) := by omega
              have hy1 : (y : Int) < (n3 : Int) := by omega
              have hS := Lib.hid (Qt.refl w5)
              have hgne : g2 ≠ G3 := fun e => HO5.out.outer_ne (k := x) (by rw [length_sqTo]; exact hlx) rfl (by rw [er2, e])
              have HCk := Lib.hid (fun (W : World) (v : Value) => show (W.setCell ⟨g2, y, none⟩ v).cell? ⟨G3, x, none⟩ = W.cell? ⟨G3, x, none⟩ from World.cell?_setCell_other _ _ _ _ (by intro e'; injection e' with e1 e2; exact hgne e1))
              go_region_held3 (fun w' => w'.cell? ⟨G3, x, none⟩ = some (.slice (some ⟨g2, 0, none⟩) n3 (R3 x).2)) (first | exact hg1 | exact (HCk.out _ _).trans hg1)
                (first | (go_at_call 57; refine (HTq.out _ (below_drewN HB5.out 1)).mono ?_; rintro e w6 ⟨rfl, q6, rfl⟩))
              have hst2 := (HO5.out.drewN (1 + q6)).sq_store hlx hly er2 (f x y)
              rw [upd_upd, tqF_set] at hst2
              have HO6 := Lib.hid hst2
              have HB6 := Lib.hid ((below_drewN HB5.out (1 + q6)).setCell (p := ⟨g2, y, none⟩) hlo2 (.int .i64 (f x y)))
              clear hst2
              go_wp2
              go_roundw
              case rel => exact ⟨y + 1, by omega, by go_num, HO6, HB6⟩
              case measure => simp [intOf]; omega
          · obtain rfl : y = n3 := by omega
            have HOn := Lib.hid (show OwnM wr (w.heap.size + 1) (some ⟨G3, 0, none⟩) c3 R3 (sqTo (tqF f (x + 1) 0) y y) from by rw [← tqF_row]; exact HOy.out)
            go_wp2
            go_roundw
            case rel => exact ⟨x + 1, by omega, by go_num, HOn, HBy⟩
            case measure => simp [intOf]; omega
      · obtain rfl : x = n3 := by omega
        have HOf := Lib.hid (show OwnM wo w.heap.size (some ⟨G3, 0, none⟩) c3 R3 (sqTo f x x) from by rw [← tqF_all]; exact HOx.out.lower (by omega))
        have HBf := Lib.hid (HB3.out.trans (HBx.out.mono (by omega)))
        have HLn := Lib.hid (length_sqTo f x x)
        go_wp2
        go_ret2
        exact ⟨⟨_, x, c3, R3, rfl, HLn.out, HOf.out⟩, HBf.out⟩
  · rw [show tsM (P : Int) xss = [] by unfold tsM; rw [if_neg (fun h => h10 (by omega))], show tsC (P : Int) xss = 5 by unfold tsC; rw [if_pos hd, if_neg (by omega)]]
    clear hO hd hX hB0 hr hn hD hTs hT
    go_enter Try.func16, Try.ntmps16
    go_wp2_with fail
    refine (HO.out).mono ?_
    rintro e w2 ⟨rfl, hb2⟩
    have HB2 := Lib.hid (HB0.out.trans (hb2.mono HB0.out.size))
    have hx := HX.out.below hb2
    have hc0 := hx.c0
    have hc1 := hx.c1
    clear hb2 hx
    go_wp2
    go_ret2
    exact ⟨⟨none, 0, 0, fun _ => (none, 0), rfl, rfl, OwnM.nil_ _ _ _⟩, HB2.out⟩
end Go.Proofs.Ytpgmjfgjlddhgaa
