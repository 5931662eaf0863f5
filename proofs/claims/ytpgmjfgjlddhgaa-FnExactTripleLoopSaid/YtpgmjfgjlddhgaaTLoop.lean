/-
  TripleLoop: the square with a unit behind the points, as the program and the reference make it. Conditions: those of each theorem.
-/
import Derived.Test.YtpgmjfgjlddhgaaTSq
namespace Go.Proofs.Ytpgmjfgjlddhgaa
open Go.RowKit Go.Deep
set_option linter.unusedVariables false
set_option linter.unusedSimpArgs false

/-- The loop's table: the unit is P. -/
def tlF (f : Nat → Nat → Int) (P : Nat) (x y : Nat) : Int := if x = y then (P : Int) else if x = P then (y : Int) else if y = P then (x : Int) else f x y
noncomputable def tlM (p : Int) (xss : List (List Int)) : List (List Int) := if tripB p xss = true ∧ p + 1 ≤ 10 then sqTo (tlF (thF xss xss.length) p.toNat) (p.toNat + 1) (p.toNat + 1) else []
noncomputable def tlC (p : Int) (xss : List (List Int)) : Int := if tripB p xss = true then (if p + 1 ≤ 10 then 0 else 5) else 1
theorem TripleLoop_small (p : Int) (xss : List (List Int)) : (tlM p xss).length ≤ 1048576 ∧ tot (tlM p xss) ≤ 1048576 := by
  unfold tlM
  split
  · next h =>
    have : p.toNat + 1 ≤ 11 := by omega
    rw [length_sqTo, tot_sqTo]
    exact ⟨by omega, Nat.le_trans (Nat.mul_le_mul this this) (by omega)⟩
  · simp [tot]

set_option maxHeartbeats 1000000 in
/-- The literal of TripleLoop. -/
theorem loopLit_c (W : World) (B1 B2 P G C : Nat) (R : Spine) (lo : Nat) (f : Nat → Nat → Int) (h1 : W.cell? ⟨B1, 0, none⟩ = some (.int .i64 (P : Int))) (h2 : W.cell? ⟨B2, 0, none⟩ = some (.slice (some ⟨G, 0, none⟩) P C))
    (ho : OwnM W lo (some ⟨G, 0, none⟩) C R (sqTo f P P)) (hP : P ≤ 32) (x y : Nat) (hx : x < P + 1) (hy : y < P + 1) :
    Calls Try.prog 61 #[.int .i64 (x : Int), .int .i64 (y : Int), .pointer (some ⟨B1, 0, none⟩), .pointer (some ⟨B2, 0, none⟩)] W (PostV W (.int .i64 (tlF f P x y))) := by
  have HF := Lib.hid (show tlF f P x y = if x = y then (P : Int) else if x = P then (y : Int) else if y = P then (x : Int) else f x y from rfl)
  generalize tlF f P x y = T at *
  by_cases hxy : x = y
  · have hd : ((x : Int) == (y : Int)) = true := by simp [hxy]
    have HF2 := Lib.hid (show T = (P : Int) by rw [HF.out, if_pos hxy])
    clear ho hxy
    go_enter Try.func61, Try.ntmps61
    go_wp2
    go_ret
    exact ⟨ret_i HF2.out.symm, Below.refl _ _⟩
  · have hd : ((x : Int) == (y : Int)) = false := by simp; omega
    by_cases hxP : x = P
    · have hd2 : ((x : Int) == (P : Int)) = true := by simp [hxP]
      have HF2 := Lib.hid (show T = (y : Int) by rw [HF.out, if_neg hxy, if_pos hxP])
      clear ho hxy hxP
      go_enter Try.func61, Try.ntmps61
      go_wp2
      go_ret
      exact ⟨ret_i HF2.out.symm, Below.refl _ _⟩
    · have hd2 : ((x : Int) == (P : Int)) = false := by simp; omega
      by_cases hyP : y = P
      · have hd3 : ((y : Int) == (P : Int)) = true := by simp [hyP]
        have HF2 := Lib.hid (show T = (x : Int) by rw [HF.out, if_neg hxy, if_neg hxP, if_pos hyP])
        clear ho hxy hxP hyP
        go_enter Try.func61, Try.ntmps61
        go_wp2
        go_ret
        exact ⟨ret_i HF2.out.symm, Below.refl _ _⟩
      · have hd3 : ((y : Int) == (P : Int)) = false := by simp; omega
        have HF2 := Lib.hid (show T = f x y by rw [HF.out, if_neg hxy, if_neg hxP, if_neg hyP])
        have hx1 : x < P := by omega
        have hy1 : y < P := by omega
        obtain ⟨g, g', eg, er, hlo, hgs, hg1, hg2⟩ := ho.sq_row (i := x) hx1 (by omega)
        injection eg with eg
        injection eg with eg
        subst eg
        obtain ⟨hq1, _⟩ := hg2 y hy1
        have hx0 : (0 : Int) ≤ (x : Int) := by omega
        have hx2 : (x : Int) < (P : Int) := by omega
        have hy0 : (0 : Int) ≤ (y : Int) := by omega
        have hy2 : (y : Int) < (P : Int) := by omega
        clear ho hxy hxP hyP hg2
        go_enter Try.func61, Try.ntmps61
        go_wp2
        go_ret
        exact ⟨ret_i HF2.out.symm, Below.refl _ _⟩

set_option maxHeartbeats 4000000 in
theorem implTripleLoop_c (w : World) (p : Int) (hp : -9223372036854775808 ≤ p ∧ p ≤ 9223372036854775807) (A : Option Addr) (n c : Nat) (R : Spine) (xss : List (List Int)) (hr : RdM w A c R xss) (hn : xss.length = n) (hw : WfM xss) (hz : (n : Int) + (tot xss : Nat) ≤ 1048576) :
    Calls Try.prog 25 #[.agg #[.int .i64 p, .slice A n c]] w (PostMC w (tlM p xss) (tlC p xss)) := by
  have hB0 := below_boxed w (.cells #[.int .i64 p, .slice A n c] 28)
  have hX := BoxD.made w p A n c 28
  have hO := IsTriple_c _ p A n c R xss (hr.below hB0) hn
  have HB0 := Lib.hid hB0
  have HX := Lib.hid hX
  clear hp hw hz
  rcases hd : tripB p xss with _ | _
  · rw [hd] at hO
    rw [show tlM p xss = [] by simp [tlM, hd], show tlC p xss = 1 by simp [tlC, hd]]
    have HO := Lib.hid hO
    clear hO hd hX hB0 hr hn
    go_enter Try.func25, Try.ntmps25
    go_wp2_with fail
    refine (HO.out).mono ?_
    rintro e w2 ⟨rfl, hb2⟩
    have HB2 := Lib.hid (HB0.out.trans (hb2.mono HB0.out.size))
    clear hb2
    go_wp2
    go_ret2
    exact ⟨⟨none, 0, 0, fun _ => (none, 0), rfl, rfl, OwnM.nil_ _ _ _⟩, HB2.out⟩
  rw [hd] at hO
  have hT := trip_dsg hd
  obtain ⟨P, rfl⟩ : ∃ P : Nat, p = (P : Int) := ⟨p.toNat, by have := hT.1.1.1; omega⟩
  obtain ⟨hD, hTs⟩ := trip_sys hd
  have hP1 : 1 ≤ P := by have := hD.1.1; omega
  have hP2 : P ≤ 32 := by have := hD.1.2; omega
  have HO := Lib.hid hO
  by_cases h10 : P + 1 ≤ 10
  · rw [show tlM (P : Int) xss = sqTo (tlF (thF xss xss.length) P) (P + 1) (P + 1) by unfold tlM; rw [if_pos ⟨hd, by omega⟩]; rfl, show tlC (P : Int) xss = 0 by unfold tlC; rw [if_pos hd, if_pos (by omega)]]
    have HC := Lib.hid (fun (W : World) (hb : Below w.heap.size w W) => thirdPoints_c W P A n c R xss (hr.below hb) hn hD hTs)
    clear hO hd hX hB0 hr hn hD hTs hT
    generalize thF xss xss.length = f at *
    have eg := Lib.hid (enters_of Try.func61 (by kernel_rfl) rfl)
    have hmf : ∀ (fn : Fn) (first cap : Array Value) (w : World), (Instr.makeFunc fn first cap).run Try.prog w = .ok (.func fn first cap) w := fun _ _ _ _ => rfl
    go_enter Try.func25, Try.ntmps25
    go_wp2_with fail
    refine (HO.out).mono ?_
    rintro e w2 ⟨rfl, hb2⟩
    have HB2 := Lib.hid (HB0.out.trans (hb2.mono HB0.out.size))
    have HX2 := Lib.hid (HX.out.below hb2)
    have hc0 := HX2.out.c0
    have hc1 := HX2.out.c1
    have hz2 := HB2.out.size
    have HX3 := Lib.hid (HX2.out.below (below_boxed w2 (.cells #[.int .i64 (P : Int)] 2)))
    have HB3 := Lib.hid (HB2.out.alloc hz2 (.cells #[.int .i64 (P : Int)] 2))
    have hd0 := HX3.out.c0
    have hd1 := HX3.out.c1
    have hb3 : (w2.alloc (.cells #[.int .i64 (P : Int)] 2)).cell? ⟨w2.heap.size, 0, none⟩ = some (.int .i64 (P : Int)) := by simp [go_sem]
    have hs3 : w2.heap.size < (w2.alloc (.cells #[.int .i64 (P : Int)] 2)).heap.size := by simp
    clear hb2
    go_wp2_with fail
    refine (HC.out _ HB3.out).mono ?_
    rintro e w4 ⟨⟨A4, n4, c4, R4, rfl, hn4, ho4⟩, hb4⟩
    obtain rfl : n4 = P := by rw [length_sqTo] at hn4; exact hn4.symm
    obtain ⟨G4, eA4, _, _, _, _⟩ := ho4.at_ (k := 0) (by rw [length_sqTo]; omega)
    subst eA4
    have hb4' := (hb4.cell (p := ⟨w2.heap.size, 0, none⟩) hs3).trans hb3
    have hs4 : w2.heap.size < w4.heap.size := by have := hb4.size; omega
    have HB4 := Lib.hid (HB3.out.trans (hb4.mono HB3.out.size))
    have hz4 := HB4.out.size
    have hb5 : (w4.alloc (.cells #[.slice (some ⟨G4, 0, none⟩) n4 c4] 22)).cell? ⟨w2.heap.size, 0, none⟩ = some (.int .i64 (n4 : Int)) := (World.cell?_alloc_lt _ _ _ hs4).trans hb4'
    have hb6 : (w4.alloc (.cells #[.slice (some ⟨G4, 0, none⟩) n4 c4] 22)).cell? ⟨w4.heap.size, 0, none⟩ = some (.slice (some ⟨G4, 0, none⟩) n4 c4) := by simp [go_sem]
    have HO5 := Lib.hid (ho4.alloc (.cells #[.slice (some ⟨G4, 0, none⟩) n4 c4] 22))
    have HB5 := Lib.hid (HB4.out.alloc hz4 (.cells #[.slice (some ⟨G4, 0, none⟩) n4 c4] 22))
    have HFs := Lib.hid (fun (W : World) (eW : W = w4.alloc (.cells #[.slice (some ⟨G4, 0, none⟩) n4 c4] 22)) => filledSquare_c W ((n4 : Int) + 1) (n4 + 1) 61 #[.pointer (some ⟨w2.heap.size, 0, none⟩), .pointer (some ⟨w4.heap.size, 0, none⟩)] (tlF f n4) eg.out (by omega) (by omega) (fun W2 x y hx2 hy2 hbW => by
      subst eW
      exact loopLit_c W2 w2.heap.size w4.heap.size n4 G4 c4 R4 _ f ((hbW.cell (p := ⟨w2.heap.size, 0, none⟩) (by simp; omega)).trans hb5) ((hbW.cell (p := ⟨w4.heap.size, 0, none⟩) (by simp)).trans hb6) (HO5.out.below hbW) hP2 x y hx2 hy2))
    clear hc0 hc1 hd0 hd1 hb3 hb4 hn4 ho4
    go_wp2_with fail
    refine (HFs.out _ rfl).mono ?_
    rintro e w6 ⟨⟨A6, n6, c6, R6, rfl, hn6, ho6⟩, hb7⟩
    have HB6 := Lib.hid (HB5.out.trans (hb7.mono HB5.out.size))
    have HO6 := Lib.hid (ho6.lower (lo' := w.heap.size) HB5.out.size)
    have HN6 := Lib.hid hn6
    clear hn6 ho6 hb7
    go_wp2
    go_ret2
    exact ⟨⟨A6, n6, c6, R6, rfl, HN6.out, HO6.out⟩, HB6.out⟩
  · rw [show tlM (P : Int) xss = [] by unfold tlM; rw [if_neg (fun h => h10 (by omega))], show tlC (P : Int) xss = 5 by unfold tlC; rw [if_pos hd, if_neg (by omega)]]
    clear hO hd hX hB0 hr hn hD hTs hT
    go_enter Try.func25, Try.ntmps25
    go_wp2_with fail
    refine (HO.out).mono ?_
    rintro e w2 ⟨rfl, hb2⟩
    have HB2 := Lib.hid (HB0.out.trans (hb2.mono HB0.out.size))
    have hx := HX.out.below hb2
    have hc0 := hx.c0
    have hc1 := hx.c1
    have hz2 := HB2.out.size
    clear hb2 hx
    go_wp2
    go_ret2
    exact ⟨⟨none, 0, 0, fun _ => (none, 0), rfl, rfl, OwnM.nil_ _ _ _⟩, by first | exact HB2.out | exact HB2.out.alloc hz2 _ | exact (HB2.out.alloc hz2 _).setCell (by simp; omega) _⟩

/-- The table as the reference writes it: a entries of the border, r rows whole, b entries of the next row. -/
def lpF (f : Nat → Nat → Int) (P a r b : Nat) (i j : Nat) : Int := if j = P then (if i < a then (i : Int) else 0) else if i = P then (if j < a then (j : Int) else 0) else if i < r ∨ (i = r ∧ j < b) then (if i = j then (P : Int) else f i j) else 0
theorem lpF_border (f : Nat → Nat → Int) {P a : Nat} (ha : a ≤ P) : upd (upd (lpF f P a a 0) a P (a : Int)) P a (a : Int) = lpF f P (a + 1) a 0 := by
  funext i j
  unfold upd lpF
  by_cases e1 : i = P ∧ j = a
  · obtain ⟨rfl, rfl⟩ := e1
    rw [if_pos ⟨rfl, rfl⟩]
    by_cases e2 : j = i
    · subst e2; rw [if_pos rfl, if_pos (by omega)]
    · rw [if_neg e2, if_pos rfl, if_pos (by omega)]
  · rw [if_neg e1]
    by_cases e2 : i = a ∧ j = P
    · obtain ⟨rfl, rfl⟩ := e2
      rw [if_pos ⟨rfl, rfl⟩, if_pos rfl, if_pos (by omega)]
    · rw [if_neg e2]
      by_cases hj : j = P
      · rw [if_pos hj, if_pos hj]
        by_cases h : i < a
        · rw [if_pos h, if_pos (by omega)]
        · rw [if_neg h, if_neg (by omega)]
      · rw [if_neg hj, if_neg hj]
        by_cases hi : i = P
        · rw [if_pos hi, if_pos hi]
          by_cases h : j < a
          · rw [if_pos h, if_pos (by omega)]
          · rw [if_neg h, if_neg (by omega)]
        · rw [if_neg hi, if_neg hi]
theorem lpF_set (f : Nat → Nat → Int) {P a b : Nat} (ha : a < P) (hb : b < P) : upd (lpF f P (a + 1) a b) a b (if a = b then (P : Int) else f a b) = lpF f P (a + 1) a (b + 1) := by
  funext i j
  unfold upd lpF
  by_cases e1 : i = a ∧ j = b
  · obtain ⟨rfl, rfl⟩ := e1
    rw [if_pos ⟨rfl, rfl⟩, if_neg (c := j = P) (by omega), if_neg (c := i = P) (by omega), if_pos (c := i < i ∨ (i = i ∧ j < j + 1)) (by omega)]
  · rw [if_neg e1]
    by_cases hj : j = P
    · rw [if_pos hj, if_pos hj]
    · rw [if_neg hj, if_neg hj]
      by_cases hi : i = P
      · rw [if_pos hi, if_pos hi]
      · rw [if_neg hi, if_neg hi]
        by_cases h : i < a ∨ (i = a ∧ j < b)
        · rw [if_pos h, if_pos (c := i < a ∨ (i = a ∧ j < b + 1)) (by omega)]
        · rw [if_neg h, if_neg (c := i < a ∨ (i = a ∧ j < b + 1)) (by omega)]
theorem lpF_row (f : Nat → Nat → Int) (P a b m : Nat) (h : b = P ∨ a = P) (hm : m = P + 1) : sqTo (lpF f P (a + 1) a b) m m = sqTo (lpF f P (a + 1) (a + 1) 0) m m := sqTo_congr fun i j hi hj => by
  unfold lpF
  by_cases e1 : j = P
  · rw [if_pos e1, if_pos e1]
  · rw [if_neg e1, if_neg e1]
    by_cases e2 : i = P
    · rw [if_pos e2, if_pos e2]
    · rw [if_neg e2, if_neg e2]
      by_cases e3 : i < a ∨ (i = a ∧ j < b)
      · rw [if_pos e3, if_pos (c := i < a + 1 ∨ (i = a + 1 ∧ j < 0)) (by omega)]
      · rw [if_neg e3, if_neg (c := i < a + 1 ∨ (i = a + 1 ∧ j < 0)) (by omega)]
theorem lpF_zero (f : Nat → Nat → Int) (P m : Nat) : sqTo zeroF m m = sqTo (lpF f P 0 0 0) m m := sqTo_congr fun i j _ _ => by
  unfold lpF zeroF
  by_cases e1 : j = P
  · rw [if_pos e1, if_neg (by omega)]
  · rw [if_neg e1]
    by_cases e2 : i = P
    · rw [if_pos e2, if_neg (by omega)]
    · rw [if_neg e2, if_neg (c := i < 0 ∨ (i = 0 ∧ j < 0)) (by omega)]
theorem lpF_all (f : Nat → Nat → Int) (P m : Nat) (hm : m = P + 1) : sqTo (lpF f P m m 0) m m = sqTo (tlF f P) m m := sqTo_congr fun i j hi hj => by
  unfold lpF tlF
  by_cases e1 : j = P
  · rw [if_pos e1, if_pos (by omega)]
    by_cases e2 : i = j
    · rw [if_pos e2]; omega
    · rw [if_neg e2, if_neg (by omega), if_pos e1]
  · rw [if_neg e1]
    by_cases e2 : i = P
    · rw [if_pos e2, if_pos (by omega), if_neg (by omega), if_pos e2]
    · rw [if_neg e2, if_pos (c := i < m ∨ (i = m ∧ j < 0)) (by omega)]
      by_cases e3 : i = j
      · rw [if_pos e3, if_pos e3]
      · rw [if_neg e3, if_neg e3, if_neg e2, if_neg e1]

set_option maxRecDepth 100000 in
set_option maxHeartbeats 4000000 in
theorem specTripleLoop_c (w : World) (p : Int) (hp : -9223372036854775808 ≤ p ∧ p ≤ 9223372036854775807) (A : Option Addr) (n c : Nat) (R : Spine) (xss : List (List Int)) (hr : RdM w A c R xss) (hn : xss.length = n) (hw : WfM xss) (hz : (n : Int) + (tot xss : Nat) ≤ 1048576) :
    Calls Try.prog 24 #[.agg #[.int .i64 p, .slice A n c]] w (PostMC w (tlM p xss) (tlC p xss)) := by
  have hB0 := below_boxed w (.cells #[.int .i64 p, .slice A n c] 28)
  have hX := BoxD.made w p A n c 28
  have hO := l11Ok_c _ w.heap.size p A n c R xss hX (hr.below hB0) hn
  have HB0 := Lib.hid hB0
  have HX := Lib.hid hX
  clear hp hw hz
  rcases hd : tripB p xss with _ | _
  · rw [hd] at hO
    rw [show tlM p xss = [] by simp [tlM, hd], show tlC p xss = 1 by simp [tlC, hd]]
    have HO := Lib.hid hO
    clear hO hd hX hB0 hr hn
    go_enter Try.func24, Try.ntmps24
    go_wp2_with fail
    refine (HO.out).mono ?_
    rintro e w2 ⟨rfl, hb2⟩
    have HB2 := Lib.hid (HB0.out.trans (hb2.mono HB0.out.size))
    clear hb2
    go_wp2
    go_ret2
    exact ⟨⟨none, 0, 0, fun _ => (none, 0), rfl, rfl, OwnM.nil_ _ _ _⟩, HB2.out⟩
  rw [hd] at hO
  have hT := trip_dsg hd
  obtain ⟨P, rfl⟩ : ∃ P : Nat, p = (P : Int) := ⟨p.toNat, by have := hT.1.1.1; omega⟩
  obtain ⟨hD, hTs⟩ := trip_sys hd
  have hP1 : 1 ≤ P := by have := hD.1.1; omega
  have hP2 : P ≤ 32 := by have := hD.1.2; omega
  have HO := Lib.hid hO
  by_cases h10 : P + 1 ≤ 10
  · rw [show tlM (P : Int) xss = sqTo (tlF (thF xss xss.length) P) (P + 1) (P + 1) by unfold tlM; rw [if_pos ⟨hd, by omega⟩]; rfl, show tlC (P : Int) xss = 0 by unfold tlC; rw [if_pos hd, if_pos (by omega)]]
    have HT := Lib.hid (fun (W : World) (hx : BoxD W w.heap.size (P : Int) A n c) (hb : Below w.heap.size w W) (x y : Nat) (hne : x ≠ y) (hx1 : x < P) (hy1 : y < P) => l11Third_c W w.heap.size P A n c R xss hx (hr.below hb) hn hD hTs x y hne hx1 hy1)
    clear hO hd hX hB0 hr hn hD hTs hT
    generalize thF xss xss.length = f at *
    obtain ⟨m, hm⟩ : ∃ m : Nat, m = P + 1 := ⟨_, rfl⟩
    have HM := Lib.hid hm
    have hadd : IntKind.i64.wrap ((P : Int) + 1) = (m : Int) := by rw [show (P : Int) + 1 = (m : Int) by omega]; exact IntWalk.i64_in _ (by omega)
    have hsub : IntKind.i64.wrap ((m : Int) - 1) = (P : Int) := by rw [show (m : Int) - 1 = (P : Int) by omega]; exact IntWalk.i64_in _ (by omega)
    have hm1 : 2 ≤ m := by omega
    have hm2 : m ≤ 10 := by omega
    have hPm : P < m := by omega
    rw [← hm]
    clear hm
    go_enter Try.func24, Try.ntmps24
    go_wp2_with fail
    refine (HO.out).mono ?_
    rintro e w2 ⟨rfl, hb2⟩
    have hz2 : w.heap.size + 1 ≤ w2.heap.size := by have := hb2.size; simpa using this
    have HX2 := Lib.hid (HX.out.below hb2)
    have HB2 := Lib.hid (HB0.out.trans (hb2.mono HB0.out.size))
    have hc0 := HX2.out.c0
    clear hb2
    go_wp2_with fail
    refine (l06Zero_c w2 m m (by omega) (by omega)).mono ?_
    rintro e w3 ⟨⟨A3, n3, c3, R3, rfl, hn3, ho3⟩, hb3⟩
    obtain rfl : n3 = m := by rw [length_sqTo] at hn3; exact hn3.symm
    obtain ⟨G3, eA3, _, _, _, _⟩ := ho3.at_ (k := 0) (by rw [length_sqTo]; omega)
    subst eA3
    have HO3 := Lib.hid (show OwnM w3 (w.heap.size + 1) (some ⟨G3, 0, none⟩) c3 R3 (sqTo (lpF f P 0 0 0) n3 n3) from by rw [← lpF_zero]; exact ho3.lower hz2)
    have HX3 := Lib.hid (HX2.out.below hb3)
    have HB3 := Lib.hid (HB2.out.trans (hb3.mono HB2.out.size))
    have hz3 : w.heap.size + 1 ≤ w3.heap.size := by have := hb3.size; omega
    clear hc0 hn3 ho3 hb3
    go_wp2
    go_loopw [6] (fun i wr => ∃ a : Nat, a ≤ n3 ∧ i = .int .i64 a ∧ Hid (OwnM wr (w.heap.size + 1) (some ⟨G3, 0, none⟩) c3 R3 (sqTo (lpF f P a a 0) n3 n3)) ∧ Hid (Below (w.heap.size + 1) w3 wr)) (fun i _ => n3 - (intOf i).toNat)
    case atStart => exact ⟨0, Nat.zero_le _, rfl, HO3, Lib.hid (Below.refl _ _)⟩
    case round =>
      obtain ⟨a, ha, rfl, HOa, HBa⟩ := hrel
      by_cases hla : a < n3
      · obtain ⟨g, g', eg, er, hlo, hgs, hg1, hg2⟩ := HOa.out.sq_row (i := a) hla (by omega)
        injection eg with eg
        injection eg with eg
        subst eg
        obtain ⟨hq1, hf1⟩ := hg2 P hPm
        have hst := HOa.out.sq_store hla hPm er (a : Int)
        obtain ⟨_, g2, eg, er2, hlo2, hgs2, hg3, hg4⟩ := hst.sq_row (i := P) hPm (by omega)
        injection eg with eg
        injection eg with eg
        subst eg
        obtain ⟨hq2, hf2⟩ := hg4 a hla
        have hst2 := hst.sq_store hPm hla er2 (a : Int)
        rw [lpF_border f (by have := HM.out; omega)] at hst2
        have HO5 := Lib.hid hst2
        have HB5 := Lib.hid ((HBa.out.setCell (p := ⟨g', P, none⟩) hlo (.int .i64 (a : Int))).setCell (p := ⟨g2, a, none⟩) hlo2 (.int .i64 (a : Int)))
        clear hst hst2 hg2 hg4
        go_wp2
        generalize ((wr.setCell ⟨g', P, none⟩ (.int .i64 (a : Int))).setCell ⟨g2, a, none⟩ (.int .i64 (a : Int))) = w5 at *
        clear hq1 hf1 hg1 hq2 hf2 hg3
        go_loopw [7] (fun i wr => ∃ b : Nat, b ≤ P ∧ (a = P → b = 0) ∧ i = .int .i64 b ∧ Hid (OwnM wr (w.heap.size + 1) (some ⟨G3, 0, none⟩) c3 R3 (sqTo (lpF f P (a + 1) a b) n3 n3)) ∧ Hid (Below (w.heap.size + 1) w3 wr)) (fun i _ => P - (intOf i).toNat)
        case atStart => exact ⟨0, Nat.zero_le _, fun _ => rfl, rfl, HO5, HB5⟩
        case round =>
          obtain ⟨b, hb, hab, rfl, HOy, HBy⟩ := hrel
          by_cases hlb : b < P
          · have hd1 : decide ((b : Int) < (P : Int)) = true := by simp; omega
            by_cases haP : a < P
            · have hd2 : decide ((a : Int) < (P : Int)) = true := by simp; omega
              obtain ⟨_, g', eg, er, hlo, hgs, hg1, hg2⟩ := HOy.out.sq_row (i := a) hla (by omega)
              injection eg with eg
              injection eg with eg
              subst eg
              obtain ⟨hq1, hf1⟩ := hg2 b (by omega)
              have hbn : b < n3 := by omega
              have hst := HOy.out.sq_store hla hbn er (P : Int)
              have HB6 := Lib.hid (HBy.out.setCell (p := ⟨g', b, none⟩) hlo (.int .i64 (P : Int)))
              by_cases hxy : a = b
              · have hne : ((a : Int) != (b : Int)) = false := by simp [hxy]
                rw [show upd (lpF f P (a + 1) a b) a b (P : Int) = lpF f P (a + 1) a (b + 1) by rw [← lpF_set f haP hlb, if_pos hxy]] at hst
                have HO6 := Lib.hid hst
                clear hst hg2 hxy
                go_wp2
                go_roundw
                case rel => exact ⟨b + 1, by omega, fun h => absurd h (by omega), by go_num, HO6, HB6⟩
                case measure => simp [intOf]; omega
              · have hne : ((a : Int) != (b : Int)) = true := by rw [bne_iff_ne]; omega
                have HO6 := Lib.hid hst
                clear hst hg2
                go_wp2
                clear hq1 hf1 hg1
                generalize wr.setCell ⟨g', b, none⟩ (.int .i64 (P : Int)) = w6 at *
                obtain ⟨g, g2, eg, er2, hlo2, hgs2, hg1, hg2⟩ := HO6.out.sq_row (i := a) hla (by omega)
                injection eg with eg
                injection eg with eg
                subst eg
                obtain ⟨hq1, hf1⟩ := hg2 b hbn
                have HTq := Lib.hid (fun (W : World) (hb : Below (w.heap.size + 1) w3 W) => HT.out W (HX3.out.step (lo := w.heap.size + 1) (by omega) hb) (HB3.out.trans (hb.mono (by omega))) a b hxy haP hlb)
                have hx0 : (0 : Int) ≤ (a : Int) := by omega
                have hx1 : (a : Int) < (n3 : Int) := by omega
                have hy0 : (0 : Int) ≤ (b : Int) := by omega
                have hy1 : (b : Int) < (n3 : Int) := by omega
                have hgne : g2 ≠ G3 := fun e => HO6.out.outer_ne (k := a) (by rw [length_sqTo]; exact hla) rfl (by rw [er2, e])
                have HCk := Lib.hid (fun (W : World) (v : Value) => show (W.setCell ⟨g2, b, none⟩ v).cell? ⟨G3, a, none⟩ = W.cell? ⟨G3, a, none⟩ from World.cell?_setCell_other _ _ _ _ (by intro e'; injection e' with e1 e2; exact hgne e1))
                go_region_held3 (fun w' => w'.cell? ⟨G3, a, none⟩ = some (.slice (some ⟨g2, 0, none⟩) n3 (R3 a).2)) (first | exact hg1 | exact (HCk.out _ _).trans hg1)
                  (first | (go_at_call 57; refine (HTq.out _ (below_drewN HB6.out 1)).mono ?_; rintro e w7 ⟨rfl, q6, rfl⟩))
                have hst2 := (HO6.out.drewN (1 + q6)).sq_store hla hbn er2 (f a b)
                rw [upd_upd, show upd (lpF f P (a + 1) a b) a b (f a b) = lpF f P (a + 1) a (b + 1) by rw [← lpF_set f haP hlb, if_neg hxy]] at hst2
                have HO7 := Lib.hid hst2
                have HB7 := Lib.hid ((below_drewN HB6.out (1 + q6)).setCell (p := ⟨g2, b, none⟩) hlo2 (.int .i64 (f a b)))
                clear hst2
                go_wp2
                go_roundw
                case rel => exact ⟨b + 1, by omega, fun h => absurd h (by omega), by go_num, HO7, HB7⟩
                case measure => simp [intOf]; omega
            · have hd2 : decide ((a : Int) < (P : Int)) = false := by simp; omega
              have HOn := Lib.hid (show OwnM wr (w.heap.size + 1) (some ⟨G3, 0, none⟩) c3 R3 (sqTo (lpF f P (a + 1) (a + 1) 0) n3 n3) from by rw [← lpF_row f P a b n3 (by have := HM.out; omega) HM.out]; exact HOy.out)
              go_wp2
              go_roundw
              case rel => exact ⟨a + 1, by omega, by go_num, HOn, HBy⟩
              case measure => simp [intOf]; omega
          · have hd1 : decide ((b : Int) < (P : Int)) = false := by simp; omega
            have HOn := Lib.hid (show OwnM wr (w.heap.size + 1) (some ⟨G3, 0, none⟩) c3 R3 (sqTo (lpF f P (a + 1) (a + 1) 0) n3 n3) from by rw [← lpF_row f P a b n3 (by omega) HM.out]; exact HOy.out)
            go_wp2
            go_roundw
            case rel => exact ⟨a + 1, by omega, by go_num, HOn, HBy⟩
            case measure => simp [intOf]; omega
      · obtain rfl : a = n3 := by omega
        have HOf := Lib.hid (show OwnM wr w.heap.size (some ⟨G3, 0, none⟩) c3 R3 (sqTo (tlF f P) a a) from by rw [← lpF_all f P a HM.out]; exact HOa.out.lower (by omega))
        have HBf := Lib.hid (HB3.out.trans (HBa.out.mono (by omega)))
        have HLn := Lib.hid (length_sqTo (tlF f P) a a)
        go_wp2
        go_ret2
        exact ⟨⟨_, a, c3, R3, rfl, HLn.out, HOf.out⟩, HBf.out⟩
  · rw [show tlM (P : Int) xss = [] by unfold tlM; rw [if_neg (fun h => h10 (by omega))], show tlC (P : Int) xss = 5 by unfold tlC; rw [if_pos hd, if_neg (by omega)]]
    clear hO hd hX hB0 hr hn hD hTs hT
    go_enter Try.func24, Try.ntmps24
    go_wp2_with fail
    refine (HO.out).mono ?_
    rintro e w2 ⟨rfl, hb2⟩
    have HB2 := Lib.hid (HB0.out.trans (hb2.mono HB0.out.size))
    have hx := HX.out.below hb2
    have hc0 := hx.c0
    have hc1 := hx.c1
    clear hb2 hx
    go_wp2
    go_ret2
    exact ⟨⟨none, 0, 0, fun _ => (none, 0), rfl, rfl, OwnM.nil_ _ _ _⟩, HB2.out⟩
end Go.Proofs.Ytpgmjfgjlddhgaa
