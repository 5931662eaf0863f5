/-
  HadamardOfDesign: contracts of the program's and of the reference's functions. Conditions: those of each theorem.
-/
import Derived.Test.YtnpbkkglnbobaaaPlane
import Derived.Test.YtnpbkkglnbobaaaStep
namespace Go.Proofs.Ytnpbkkglnbobaaa
open Go.RowKit
set_option linter.unusedVariables false
set_option linter.unusedSimpArgs false

theorem OwnI.lit1 (w : World) (x : Int) {lo : Nat} (h : lo ≤ w.heap.size) : OwnI (w.alloc (.cells #[.int .i64 x] 2)) lo (some ⟨w.heap.size, 0, none⟩) 1 [x] :=
  World.ownsRow_lit (e := 2) (size := 1) w #[.int .i64 x] 1 h (by unfold maxLen; omega) rfl
theorem OwnM.lit1 {w : World} {lo : Nat} {A : Option Addr} {c : Nat} {xs : List Int} (hr : OwnI w lo A c xs) (h : lo ≤ w.heap.size) : OwnM (w.alloc (.cells #[.slice A xs.length c] 29)) lo (some ⟨w.heap.size, 0, none⟩) 1 (fun _ => (A, c)) [xs] :=
  ⟨World.ownsRow_lit (e := 29) (size := 1) w #[.slice A xs.length c] 1 h (by unfold maxLen; omega) rfl, fun k hk => by
    obtain rfl : k = 0 := by simp at hk; omega
    exact hr.alloc _, fun i j hij hj => by simp at hj; omega⟩

def parW (p : Int) (xss : List (List Int)) : Value :=
  if dsgB p xss = false then .tuple #[.agg #[.int .i64 0, .int .i64 0, .int .i64 0, .int .i64 0, .int .i64 0], .int .i64 1]
  else if balB p.toNat xss = false then .tuple #[.agg #[.int .i64 0, .int .i64 0, .int .i64 0, .int .i64 0, .int .i64 0], .int .i64 6]
  else .tuple #[parA p.toNat xss, .int .i64 0]

theorem below_wr {B : Nat} {w w' : World} (h : Below B w w') (hB : B ≤ w'.heap.size) (o : Obj) : Below B w (w'.alloc o) := h.alloc hB o

theorem set5_read {w : World} {g : Nat} (z : ZBox w g) (u0 u1 u2 u3 u4 : Value) (o : Obj) :
    ((((((w.setCell ⟨g, 0, none⟩ u0).setCell ⟨g, 1, none⟩ u1).setCell ⟨g, 2, none⟩ u2).setCell ⟨g, 3, none⟩ u3).setCell ⟨g, 4, none⟩ u4).alloc o).cell? ⟨g, 0, none⟩ = some u0 ∧
    ((((((w.setCell ⟨g, 0, none⟩ u0).setCell ⟨g, 1, none⟩ u1).setCell ⟨g, 2, none⟩ u2).setCell ⟨g, 3, none⟩ u3).setCell ⟨g, 4, none⟩ u4).alloc o).cell? ⟨g, 1, none⟩ = some u1 ∧
    ((((((w.setCell ⟨g, 0, none⟩ u0).setCell ⟨g, 1, none⟩ u1).setCell ⟨g, 2, none⟩ u2).setCell ⟨g, 3, none⟩ u3).setCell ⟨g, 4, none⟩ u4).alloc o).cell? ⟨g, 2, none⟩ = some u2 ∧
    ((((((w.setCell ⟨g, 0, none⟩ u0).setCell ⟨g, 1, none⟩ u1).setCell ⟨g, 2, none⟩ u2).setCell ⟨g, 3, none⟩ u3).setCell ⟨g, 4, none⟩ u4).alloc o).cell? ⟨g, 3, none⟩ = some u3 ∧
    ((((((w.setCell ⟨g, 0, none⟩ u0).setCell ⟨g, 1, none⟩ u1).setCell ⟨g, 2, none⟩ u2).setCell ⟨g, 3, none⟩ u3).setCell ⟨g, 4, none⟩ u4).alloc o).cell? ⟨g, 4, none⟩ = some u4 := by
  have hlt : g < w.heap.size := cell_size z.c0
  have z0 := z.c0
  have z1 := z.c1
  have z2 := z.c2
  have z3 := z.c3
  have z4 := z.c4
  have hne : ∀ (W : World) (i j : Nat) (u : Value), i ≠ j → (W.setCell ⟨g, i, none⟩ u).cell? ⟨g, j, none⟩ = W.cell? ⟨g, j, none⟩ := fun W i j u h => World.cell?_setCell_other _ _ _ _ (by intro e; injection e with e1 e2; exact h (by omega))
  have heq : ∀ (W : World) (i : Nat) (u v : Value), W.cell? ⟨g, i, none⟩ = some v → (W.setCell ⟨g, i, none⟩ u).cell? ⟨g, i, none⟩ = some u := fun W i u v h => World.cell?_setCell_same' _ _ _ (by rw [h]; rfl)
  refine ⟨?_, ?_, ?_, ?_, ?_⟩
  all_goals rw [World.cell?_alloc_lt _ _ _ (by simpa using hlt)]
  · rw [hne _ _ _ _ (by omega), hne _ _ _ _ (by omega), hne _ _ _ _ (by omega), hne _ _ _ _ (by omega)]
    exact heq _ _ _ _ z0
  · rw [hne _ _ _ _ (by omega), hne _ _ _ _ (by omega), hne _ _ _ _ (by omega)]
    exact heq _ _ _ (.int .i64 0) (by rw [hne _ _ _ _ (by omega)]; exact z1)
  · rw [hne _ _ _ _ (by omega), hne _ _ _ _ (by omega)]
    exact heq _ _ _ (.int .i64 0) (by rw [hne _ _ _ _ (by omega), hne _ _ _ _ (by omega)]; exact z2)
  · rw [hne _ _ _ _ (by omega)]
    exact heq _ _ _ (.int .i64 0) (by rw [hne _ _ _ _ (by omega), hne _ _ _ _ (by omega), hne _ _ _ _ (by omega)]; exact z3)
  · exact heq _ _ _ (.int .i64 0) (by rw [hne _ _ _ _ (by omega), hne _ _ _ _ (by omega), hne _ _ _ _ (by omega), hne _ _ _ _ (by omega)]; exact z4)

set_option maxHeartbeats 4000000 in
set_option maxRecDepth 10000 in
theorem ParametersOf_c (w : World) (p : Int) (A : Option Addr) (n c : Nat) (R : Spine) (xss : List (List Int)) (hr : RdM w A c R xss) (hn : xss.length = n) :
    Calls Try.prog 99 #[.agg #[.int .i64 p, .slice A n c]] w (PostV w (parW p xss)) := by
  obtain ⟨W, hW⟩ : ∃ W, W = (w.alloc (.cells #[.int .i64 p, .slice A n c] 42)).alloc (.cells #[.int .i64 0, .int .i64 0, .int .i64 0, .int .i64 0, .int .i64 0] 80) := ⟨_, rfl⟩
  have hB0 : Below w.heap.size w W := by rw [hW]; exact (below_boxed _ _).alloc (by simp) _
  have hX : BoxD W w.heap.size p A n c := by rw [hW]; exact (BoxD.made _ _ _ _ _ _).below (below_boxed _ _)
  have hZ : ZBox W (w.heap.size + 1) := by
    rw [hW]
    have := ZBox.made (w.alloc (.cells #[.int .i64 p, .slice A n c] 42)) 80
    simpa using this
  have hs2 : W.heap.size = w.heap.size + 1 + 1 := by rw [hW]; simp
  have hO := ValidDesign_c W p A n c R xss (hr.below hB0) hn
  have HB0 := Lib.hid hB0
  have HX := Lib.hid hX
  have HZ := Lib.hid hZ
  have HS2 := Lib.hid hs2
  have HW := Lib.hid hW
  rcases hd : dsgB p xss with _ | _
  · rw [hd] at hO
    have HF := Lib.hid (show parW p xss = .tuple #[.agg #[.int .i64 0, .int .i64 0, .int .i64 0, .int .i64 0, .int .i64 0], .int .i64 1] by simp [parW, hd])
    rw [hW] at hO
    have HO := Lib.hid hO
    generalize parW p xss = T at *
    clear hO hB0 hX hZ hW hd hr hn hs2
    go_enter Try.func99, Try.ntmps99
    go_wp2_with fail
    refine (HO.out).mono ?_
    rintro e w1 ⟨rfl, hb1⟩
    rw [← HW.out] at hb1
    have HB1 := Lib.hid (HB0.out.trans (hb1.mono HB0.out.size))
    have HZ1 := Lib.hid (HZ.out.step (by have := HS2.out; omega) hb1)
    clear hb1
    have z := HZ1.out
    have z0 := z.c0
    have z1 := z.c1
    have z2 := z.c2
    have z3 := z.c3
    have z4 := z.c4
    have y0 := z.f0
    have y1 := z.f1
    have y2 := z.f2
    have y3 := z.f3
    have y4 := z.f4
    clear z
    go_wp2
    refine bodyPost_ret (v := .tuple #[.agg #[.int .i64 0, .int .i64 0, .int .i64 0, .int .i64 0, .int .i64 0], .int .i64 1]) (by simp [results, Try.results99, go_sem, z0, z1, z2, z3, z4]) rfl ⟨by rw [HF.out], ?_⟩
    exact below_set5 HB1.out (by omega)
  · rw [hd] at hO
    have hD := dsgB_true.1 hd
    obtain ⟨P, rfl⟩ : ∃ P : Nat, p = (P : Int) := ⟨p.toNat, by have := hD.1.1; omega⟩
    have HC := Lib.hid (fun (W : World) (hb : Below w.heap.size w W) => parametersOf_c W P A n c R xss (hr.below hb) hn hD)
    rw [hW] at hO
    have HO := Lib.hid hO
    by_cases hbal : BalOk P xss
    · have HF := Lib.hid (show parW (P : Int) xss = .tuple #[parA P xss, .int .i64 0] by
        unfold parW; rw [if_neg (by simp [hd]), if_neg (by rw [show (P : Int).toNat = P from rfl]; unfold balB; rw [decide_eq_true hbal]; simp)]; rfl)
      rw [parV_yes hbal] at HC
      unfold parA at HC HF
      generalize parW (P : Int) xss = T at *
      generalize parR P xss = Rr at *
      generalize parL P xss = Ll at *
      generalize (row xss 0).length = Kk at *
      generalize xss.length = nn at *
      clear hO hB0 hX hZ hW hd hr hn hs2 hD hbal
      go_enter Try.func99, Try.ntmps99
      go_wp2_with fail
      refine (HO.out).mono ?_
      rintro e w1 ⟨rfl, hb1⟩
      rw [← HW.out] at hb1
      have HB1 := Lib.hid (HB0.out.trans (hb1.mono HB0.out.size))
      have HZ1 := Lib.hid (HZ.out.step (by have := HS2.out; omega) hb1)
      have hx := HX.out.below hb1
      have hc0 := hx.c0
      have hc1 := hx.c1
      have hs3 : w.heap.size + 1 < w1.heap.size := by have := HS2.out; have := hb1.size; omega
      clear hb1 hx
      go_wp2_with fail
      refine (HC.out _ HB1.out).mono ?_
      rintro e w2 ⟨rfl, hb2⟩
      have HB2 := Lib.hid (HB1.out.trans (hb2.mono HB1.out.size))
      have HZ2 := Lib.hid (HZ1.out.step (lo := w1.heap.size) hs3 hb2)
      have hz2 := HB2.out.size
      have hs4 : w.heap.size + 1 < w2.heap.size := by have := hb2.size; omega
      clear hb2 hc0 hc1
      have HB3 := Lib.hid (HB2.out.alloc hz2 (.cells #[.int .i64 (P : Int), .int .i64 (nn : Int), .int .i64 Rr, .int .i64 (Kk : Int), .int .i64 Ll] 80))
      have HZ3 := Lib.hid (HZ2.out.step (lo := w2.heap.size) hs4 (below_boxed w2 (.cells #[.int .i64 (P : Int), .int .i64 (nn : Int), .int .i64 Rr, .int .i64 (Kk : Int), .int .i64 Ll] 80)))
      have z := HZ2.out
      have z0 := z.c0
      have z1 := z.c1
      have z2 := z.c2
      have z3 := z.c3
      have z4 := z.c4
      have y0 := z.f0
      have y1 := z.f1
      have y2 := z.f2
      have y3 := z.f3
      have y4 := z.f4
      clear z
      go_wp2
      obtain ⟨r0, r1, r2, r3, r4⟩ := set5_read HZ2.out (.int .i64 (P : Int)) (.int .i64 (nn : Int)) (.int .i64 Rr) (.int .i64 (Kk : Int)) (.int .i64 Ll) (.cells #[.int .i64 (P : Int), .int .i64 (nn : Int), .int .i64 Rr, .int .i64 (Kk : Int), .int .i64 Ll] 80)
      refine bodyPost_ret (v := .tuple #[.agg #[.int .i64 (P : Int), .int .i64 (nn : Int), .int .i64 Rr, .int .i64 (Kk : Int), .int .i64 Ll], .int .i64 0]) (by simp [results, Try.results99, go_sem, r0, r1, r2, r3, r4]) rfl ⟨by rw [HF.out], ?_⟩
      exact (below_set5 HB2.out (by omega)).alloc (by simp; omega) _
    · have HF := Lib.hid (show parW (P : Int) xss = .tuple #[.agg #[.int .i64 0, .int .i64 0, .int .i64 0, .int .i64 0, .int .i64 0], .int .i64 6] by
        unfold parW; rw [if_neg (by simp [hd]), if_pos (by rw [show (P : Int).toNat = P from rfl]; exact decide_eq_false hbal)])
      rw [parV_no hbal] at HC
      generalize parW (P : Int) xss = T at *
      clear hO hB0 hX hZ hW hd hr hn hs2 hD hbal
      go_enter Try.func99, Try.ntmps99
      go_wp2_with fail
      refine (HO.out).mono ?_
      rintro e w1 ⟨rfl, hb1⟩
      rw [← HW.out] at hb1
      have HB1 := Lib.hid (HB0.out.trans (hb1.mono HB0.out.size))
      have HZ1 := Lib.hid (HZ.out.step (by have := HS2.out; omega) hb1)
      have hx := HX.out.below hb1
      have hc0 := hx.c0
      have hc1 := hx.c1
      have hs3 : w.heap.size + 1 < w1.heap.size := by have := HS2.out; have := hb1.size; omega
      clear hb1 hx
      go_wp2_with fail
      refine (HC.out _ HB1.out).mono ?_
      rintro e w2 ⟨rfl, hb2⟩
      have HB2 := Lib.hid (HB1.out.trans (hb2.mono HB1.out.size))
      have HZ2 := Lib.hid (HZ1.out.step (lo := w1.heap.size) hs3 hb2)
      have hz2 := HB2.out.size
      have hs4 : w.heap.size + 1 < w2.heap.size := by have := hb2.size; omega
      clear hb2 hc0 hc1
      have HB3 := Lib.hid (HB2.out.alloc hz2 (.cells #[.int .i64 0, .int .i64 0, .int .i64 0, .int .i64 0, .int .i64 0] 80))
      have HZ3 := Lib.hid (HZ2.out.step (lo := w2.heap.size) hs4 (below_boxed w2 (.cells #[.int .i64 0, .int .i64 0, .int .i64 0, .int .i64 0, .int .i64 0] 80)))
      have z := HZ2.out
      have z0 := z.c0
      have z1 := z.c1
      have z2 := z.c2
      have z3 := z.c3
      have z4 := z.c4
      have y0 := z.f0
      have y1 := z.f1
      have y2 := z.f2
      have y3 := z.f3
      have y4 := z.f4
      clear z
      go_wp2
      obtain ⟨r0, r1, r2, r3, r4⟩ := set5_read HZ2.out (.int .i64 0) (.int .i64 0) (.int .i64 0) (.int .i64 0) (.int .i64 0) (.cells #[.int .i64 0, .int .i64 0, .int .i64 0, .int .i64 0, .int .i64 0] 80)
      refine bodyPost_ret (v := .tuple #[.agg #[.int .i64 0, .int .i64 0, .int .i64 0, .int .i64 0, .int .i64 0], .int .i64 6]) (by simp [results, Try.results99, go_sem, r0, r1, r2, r3, r4]) rfl ⟨by rw [HF.out], ?_⟩
      exact (below_set5 HB2.out (by omega)).alloc (by simp; omega) _

def hdF (xss : List (List Int)) (x y : Nat) : Int := if x = 0 ∨ y = 0 then 1 else if hasB (row xss (x - 1)) ((y : Int) - 1) = true then 1 else -1
def hdOk (P : Nat) (xss : List (List Int)) : Prop := BalOk P xss ∧ xss.length = P ∧ P = 2 * (row xss 0).length + 1 ∧ ((row xss 0).length : Int) = 2 * parL P xss + 1
instance (P : Nat) (xss : List (List Int)) : Decidable (hdOk P xss) := by unfold hdOk; infer_instance
def hdM (p : Int) (xss : List (List Int)) : List (List Int) := if dsgB p xss = true ∧ hdOk p.toNat xss then sqTo (hdF xss) (p.toNat + 1) (p.toNat + 1) else []
def hdC (p : Int) (xss : List (List Int)) : Int := if dsgB p xss = false then 1 else if hdOk p.toNat xss then 0 else 6
theorem HadamardOfDesign_small (p : Int) (xss : List (List Int)) : (hdM p xss).length ≤ 1048576 ∧ tot (hdM p xss) ≤ 1048576 := by
  unfold hdM
  split
  · next h =>
    have hD := dsgB_true.1 h.1
    have : p.toNat + 1 ≤ 33 := by have := hD.1.2; omega
    rw [length_sqTo, tot_sqTo]
    exact ⟨by omega, Nat.le_trans (Nat.mul_le_mul this this) (by omega)⟩
  · simp [tot]
theorem parL_bd (P : Nat) (xss : List (List Int)) (h : 2 ≤ P) : 0 ≤ parL P xss ∧ parL P xss ≤ (xss.length : Int) := by
  unfold parL
  have hm : nth (pairL P xss) 0 ∈ pairL P xss := by rw [nth_eq (pairL_pos xss h)]; exact List.getElem_mem _
  generalize nth (pairL P xss) 0 = z at *
  unfold pairL pairsTo at hm
  rw [List.mem_flatMap] at hm
  obtain ⟨x, _, hm⟩ := hm
  have h2 := List.mem_of_mem_drop hm
  unfold rowTo at h2
  rw [List.mem_map] at h2
  obtain ⟨y, _, rfl⟩ := h2
  unfold cntF
  have := cntP_le xss (x : Int) (y : Int) xss.length
  omega

/-- The literal of HadamardOfDesign. -/
theorem hadLit_c (W : World) (B P : Nat) (A : Option Addr) (n c : Nat) (R : Spine) (xss : List (List Int)) (hx : BoxD W B (P : Int) A n c) (hr : RdM W A c R xss) (hn : xss.length = n) (hP : P ≤ 32) (hnP : n = P) (x y : Nat) (hx1 : x < P + 1) (hy1 : y < P + 1) :
    Calls Try.prog 101 #[.int .i64 (x : Int), .int .i64 (y : Int), .pointer (some ⟨B, 0, none⟩)] W (PostV W (.int .i64 (hdF xss x y))) := by
  have hc1 := hx.c1
  by_cases h0 : x = 0
  · rw [show hdF xss x y = 1 by simp [hdF, h0]]
    subst h0
    clear hx hr hn hc1 hnP
    go_enter Try.func101, Try.ntmps101
    go_wp2
    go_ret
    exact ⟨rfl, Below.refl _ _⟩
  · by_cases h1 : y = 0
    · rw [show hdF xss x y = 1 by simp [hdF, h1]]
      subst h1
      have hxd : ((x : Int) == 0) = false := by simp; omega
      clear hx hr hn hc1 hnP h0
      go_enter Try.func101, Try.ntmps101
      go_wp2
      go_ret
      exact ⟨rfl, Below.refl _ _⟩
    · obtain ⟨k, rfl⟩ : ∃ k, x = k + 1 := ⟨x - 1, by omega⟩
      have hkx : k < xss.length := by omega
      obtain ⟨b, off, e, hb, hcc⟩ := hr.at_ k hkx
      have HC := Lib.hid (contains_c W (R k).1 (row xss k).length (R k).2 (row xss k) ((y : Int) - 1) (hr.rows k hkx) rfl)
      have HF := Lib.hid (show hdF xss (k + 1) y = if hasB (row xss k) ((y : Int) - 1) = true then 1 else -1 by
        unfold hdF; rw [if_neg (by omega), Nat.add_sub_cancel])
      rw [HF.out]
      have hyd : ((y : Int) == 0) = false := by simp; omega
      obtain ⟨X, hX⟩ : ∃ X : Int, X = ((k + 1 : Nat) : Int) := ⟨_, rfl⟩
      have hX1 : X - 1 = (k : Int) := by omega
      have hxd : (X == 0) = false := by simp; omega
      have hX2 : 1 ≤ X := by omega
      have hX3 : X ≤ 33 := by omega
      have hk0 : (0 : Int) ≤ (k : Int) := by omega
      have hk1 : (k : Int) < (n : Int) := by omega
      have hy0 : 1 ≤ (y : Int) := by omega
      have hy9 : (y : Int) ≤ 33 := by omega
      rw [← hX]
      subst e
      clear hx hr hn hnP h0 h1 hX
      generalize hasB (row xss k) ((y : Int) - 1) = q at *
      cases q
      all_goals
        go_enter Try.func101, Try.ntmps101
        go_wp2_with fail
        refine (HC.out).mono ?_
        rintro e w' ⟨rfl, rfl⟩
        go_wp2
        go_ret
        exact ⟨rfl, Below.refl _ _⟩

set_option maxHeartbeats 4000000 in
theorem implHadamardOfDesign_c (w : World) (p : Int) (hp : -9223372036854775808 ≤ p ∧ p ≤ 9223372036854775807) (A : Option Addr) (n c : Nat) (R : Spine) (xss : List (List Int)) (hr : RdM w A c R xss) (hn : xss.length = n) (hw : WfM xss) (hz : (n : Int) + (tot xss : Nat) ≤ 1048576) :
    Calls Try.prog 53 #[.agg #[.int .i64 p, .slice A n c]] w (PostMC w (hdM p xss) (hdC p xss)) := by
  have hB0 := below_boxed w (.cells #[.int .i64 p, .slice A n c] 42)
  have hX := BoxD.made w p A n c 42
  have hO := ParametersOf_c _ p A n c R xss (hr.below hB0) hn
  have HB0 := Lib.hid hB0
  have HX := Lib.hid hX
  clear hp hw hz
  rcases hd : dsgB p xss with _ | _
  · rw [show parW p xss = .tuple #[.agg #[.int .i64 0, .int .i64 0, .int .i64 0, .int .i64 0, .int .i64 0], .int .i64 1] by simp [parW, hd]] at hO
    rw [show hdM p xss = [] by simp [hdM, hd], show hdC p xss = 1 by simp [hdC, hd]]
    have HC := Lib.hid hO
    clear hO hd hX hB0 hr hn
    go_enter Try.func53, Try.ntmps53
    go_wp2_with fail
    refine (HC.out).mono ?_
    rintro e w2 ⟨rfl, hb2⟩
    have HB2 := Lib.hid (HB0.out.trans (hb2.mono HB0.out.size))
    have hz2 := HB2.out.size
    clear hb2
    go_wp2
    go_ret2
    exact ⟨⟨none, 0, 0, fun _ => (none, 0), rfl, rfl, OwnM.nil_ _ _ _⟩, HB2.out.alloc hz2 _⟩
  have hD := dsgB_true.1 hd
  obtain ⟨P, rfl⟩ : ∃ P : Nat, p = (P : Int) := ⟨p.toNat, by have := hD.1.1; omega⟩
  have hP1 : 1 ≤ P := by have := hD.1.1; omega
  have hP2 : P ≤ 32 := by have := hD.1.2; omega
  by_cases hbal : BalOk P xss
  · rw [show parW (P : Int) xss = .tuple #[parA P xss, .int .i64 0] by
      unfold parW; rw [if_neg (by simp [hd]), if_neg (by rw [show (P : Int).toNat = P from rfl]; unfold balB; rw [decide_eq_true hbal]; simp)]; rfl] at hO
    unfold parA at hO
    have HC := Lib.hid hO
    have hl0 : (row xss 0).length ≤ 32 := Nat.le_trans (setB_len (hD.rows 0 hbal.2.1)) hP2
    have hl2 : 2 ≤ (row xss 0).length := hbal.2.2.1
    have hLb := parL_bd P xss hbal.1
    have HBal := Lib.hid hbal
    obtain ⟨N, hN⟩ : ∃ N : Int, N = ((row xss 0).length : Int) - 1 := ⟨_, rfl⟩
    obtain ⟨L, hL⟩ : ∃ L, L = parL P xss := ⟨_, rfl⟩
    obtain ⟨M, hM⟩ : ∃ M : Int, M = (xss.length : Int) := ⟨_, rfl⟩
    rw [show ((row xss 0).length : Int) = N + 1 by omega, ← hL, ← hM] at HC
    rw [← hL, ← hM] at hLb
    have hN1 : 1 ≤ N := by omega
    have hN2 : N ≤ 31 := by omega
    have hM1 : 0 ≤ M := by omega
    have hM2 : M ≤ 128 := by have := hD.2.1; omega
    have hL0 := hLb.1
    have hL2 : L ≤ 128 := by omega
    have HAff := Lib.hid (show hdOk P xss ↔ M = (P : Int) ∧ (P : Int) = 2 * (N + 1) + 1 ∧ N + 1 = 2 * L + 1 from by
      unfold hdOk
      rw [← hL, hM, hN]
      constructor
      · rintro ⟨_, a, b, d⟩; omega
      · rintro ⟨a, b, d⟩; exact ⟨HBal.out, by omega, by omega, by omega⟩)
    have HMn := Lib.hid (show M = (n : Int) by rw [hM, hn])
    generalize parR P xss = Rr at *
    by_cases hq1 : M = (P : Int)
    · have hd1 : (M != (P : Int)) = false := by simp [hq1]
      by_cases hq2 : (P : Int) = 2 * (N + 1) + 1
      · have hd2 : ((P : Int) != 2 * (N + 1) + 1) = false := by simp [hq2]
        by_cases hq3 : N + 1 = 2 * L + 1
        · have hd3 : (N + 1 != 2 * L + 1) = false := by simp [hq3]
          have hd4 : (N != 2 * L) = false := by simp; omega
          have hOk := HAff.out.2 ⟨hq1, hq2, hq3⟩
          have HF1 := Lib.hid (show hdM (P : Int) xss = sqTo (hdF xss) (P + 1) (P + 1) by unfold hdM; rw [if_pos ⟨hd, hOk⟩]; rfl)
          have HF2 := Lib.hid (show hdC (P : Int) xss = 0 by unfold hdC; rw [if_neg (by simp [hd]), show (P : Int).toNat = P from rfl, if_pos hOk])
          rw [HF1.out, HF2.out]
          have hnP : n = P := by have := HMn.out; omega
          have HFs := Lib.hid (fun (W : World) (hb : Below w.heap.size w W) (hx : BoxD W w.heap.size (P : Int) A n c) => filledSquare_c W ((P : Int) + 1) (P + 1) 101 #[.pointer (some ⟨w.heap.size, 0, none⟩)] (hdF xss) (enters_of Try.func101 (by kernel_rfl) rfl) (by omega) (by omega) (fun W2 x y hx2 hy2 hb2 => hadLit_c W2 w.heap.size P A n c R xss (hx.below hb2) ((hr.below hb).below hb2) hn hP2 hnP x y hx2 hy2))
          have hmf : ∀ (fn : Fn) (first cap : Array Value) (w : World), (Instr.makeFunc fn first cap).run Try.prog w = .ok (.func fn first cap) w := fun _ _ _ _ => rfl
          clear hO hd hX hB0 hr hn hD hbal hN hL hM hl0 hl2 hLb hq1 hq2 hq3 hOk hnP
          go_enter Try.func53, Try.ntmps53
          go_wp2_with fail
          refine (HC.out).mono ?_
          rintro e w2 ⟨rfl, hb2⟩
          have HB2 := Lib.hid (HB0.out.trans (hb2.mono HB0.out.size))
          have hz2 := HB2.out.size
          have HX2 := Lib.hid (HX.out.below hb2)
          clear hb2
          have HB3 := Lib.hid (HB2.out.alloc hz2 (.cells #[.int .i64 (P : Int), .int .i64 M, .int .i64 Rr, .int .i64 (N + 1), .int .i64 L] 80))
          have HX3 := Lib.hid (HX2.out.below (below_boxed w2 (.cells #[.int .i64 (P : Int), .int .i64 M, .int .i64 Rr, .int .i64 (N + 1), .int .i64 L] 80)))
          go_wp2_with fail
          refine (HFs.out _ HB3.out HX3.out).mono ?_
          rintro e w4 ⟨⟨A4, n4, c4, R4, rfl, hn4, ho4⟩, hb4⟩
          have HB4 := Lib.hid (HB3.out.trans (hb4.mono HB3.out.size))
          have HO4 := Lib.hid (ho4.lower (lo' := w.heap.size) HB3.out.size)
          have HN4 := Lib.hid hn4
          clear hn4 ho4 hb4
          go_wp2
          go_ret2
          exact ⟨⟨A4, n4, c4, R4, rfl, HN4.out, HO4.out⟩, HB4.out⟩
        · have hd3 : (N + 1 != 2 * L + 1) = true := by rw [bne_iff_ne]; exact hq3
          have hd4 : (N != 2 * L) = true := by rw [bne_iff_ne]; omega
          have HF1 := Lib.hid (show hdM (P : Int) xss = [] by unfold hdM; rw [if_neg (fun h => hq3 (HAff.out.1 h.2).2.2)])
          have HF2 := Lib.hid (show hdC (P : Int) xss = 6 by unfold hdC; rw [if_neg (by simp [hd]), show (P : Int).toNat = P from rfl, if_neg (fun h => hq3 (HAff.out.1 h).2.2)])
          rw [HF1.out, HF2.out]
          clear hO hd hX hB0 hr hn hD hbal hN hL hM hl0 hl2 hLb hq1 hq2 hq3
          go_enter Try.func53, Try.ntmps53
          go_wp2_with fail
          refine (HC.out).mono ?_
          rintro e w2 ⟨rfl, hb2⟩
          have HB2 := Lib.hid (HB0.out.trans (hb2.mono HB0.out.size))
          have hz2 := HB2.out.size
          have HX2 := Lib.hid (HX.out.below hb2)
          clear hb2
          go_wp2
          go_ret2
          exact ⟨⟨none, 0, 0, fun _ => (none, 0), rfl, rfl, OwnM.nil_ _ _ _⟩, HB2.out.alloc hz2 _⟩
      · have hd2 : ((P : Int) != 2 * (N + 1) + 1) = true := by rw [bne_iff_ne]; exact hq2
        have HF1 := Lib.hid (show hdM (P : Int) xss = [] by unfold hdM; rw [if_neg (fun h => hq2 (HAff.out.1 h.2).2.1)])
        have HF2 := Lib.hid (show hdC (P : Int) xss = 6 by unfold hdC; rw [if_neg (by simp [hd]), show (P : Int).toNat = P from rfl, if_neg (fun h => hq2 (HAff.out.1 h).2.1)])
        rw [HF1.out, HF2.out]
        clear hO hd hX hB0 hr hn hD hbal hN hL hM hl0 hl2 hLb hq1 hq2
        go_enter Try.func53, Try.ntmps53
        go_wp2_with fail
        refine (HC.out).mono ?_
        rintro e w2 ⟨rfl, hb2⟩
        have HB2 := Lib.hid (HB0.out.trans (hb2.mono HB0.out.size))
        have hz2 := HB2.out.size
        have HX2 := Lib.hid (HX.out.below hb2)
        clear hb2
        go_wp2
        go_ret2
        exact ⟨⟨none, 0, 0, fun _ => (none, 0), rfl, rfl, OwnM.nil_ _ _ _⟩, HB2.out.alloc hz2 _⟩
    · have hd1 : (M != (P : Int)) = true := by rw [bne_iff_ne]; exact hq1
      have HF1 := Lib.hid (show hdM (P : Int) xss = [] by unfold hdM; rw [if_neg (fun h => hq1 (HAff.out.1 h.2).1)])
      have HF2 := Lib.hid (show hdC (P : Int) xss = 6 by unfold hdC; rw [if_neg (by simp [hd]), show (P : Int).toNat = P from rfl, if_neg (fun h => hq1 (HAff.out.1 h).1)])
      rw [HF1.out, HF2.out]
      clear hO hd hX hB0 hr hn hD hbal hN hL hM hl0 hl2 hLb hq1
      go_enter Try.func53, Try.ntmps53
      go_wp2_with fail
      refine (HC.out).mono ?_
      rintro e w2 ⟨rfl, hb2⟩
      have HB2 := Lib.hid (HB0.out.trans (hb2.mono HB0.out.size))
      have hz2 := HB2.out.size
      have HX2 := Lib.hid (HX.out.below hb2)
      clear hb2
      go_wp2
      go_ret2
      exact ⟨⟨none, 0, 0, fun _ => (none, 0), rfl, rfl, OwnM.nil_ _ _ _⟩, HB2.out.alloc hz2 _⟩
  · rw [show parW (P : Int) xss = .tuple #[.agg #[.int .i64 0, .int .i64 0, .int .i64 0, .int .i64 0, .int .i64 0], .int .i64 6] by
      unfold parW; rw [if_neg (by simp [hd]), if_pos (by rw [show (P : Int).toNat = P from rfl]; exact decide_eq_false hbal)]] at hO
    rw [show hdM (P : Int) xss = [] by unfold hdM; rw [if_neg (fun h => hbal h.2.1)], show hdC (P : Int) xss = 6 by unfold hdC; rw [if_neg (by simp [hd]), show (P : Int).toNat = P from rfl, if_neg (fun h => hbal h.1)]]
    have HC := Lib.hid hO
    clear hO hd hX hB0 hr hn hD hbal
    go_enter Try.func53, Try.ntmps53
    go_wp2_with fail
    refine (HC.out).mono ?_
    rintro e w2 ⟨rfl, hb2⟩
    have HB2 := Lib.hid (HB0.out.trans (hb2.mono HB0.out.size))
    have hz2 := HB2.out.size
    clear hb2
    go_wp2
    go_ret2
    exact ⟨⟨none, 0, 0, fun _ => (none, 0), rfl, rfl, OwnM.nil_ _ _ _⟩, HB2.out.alloc hz2 _⟩

set_option maxHeartbeats 4000000 in
theorem specHadamardOfDesign_c (w : World) (p : Int) (hp : -9223372036854775808 ≤ p ∧ p ≤ 9223372036854775807) (A : Option Addr) (n c : Nat) (R : Spine) (xss : List (List Int)) (hr : RdM w A c R xss) (hn : xss.length = n) (hw : WfM xss) (hz : (n : Int) + (tot xss : Nat) ≤ 1048576) :
    Calls Try.prog 52 #[.agg #[.int .i64 p, .slice A n c]] w (PostMC w (hdM p xss) (hdC p xss)) := by
  have hB0 := below_boxed w (.cells #[.int .i64 p, .slice A n c] 42)
  have hX := BoxD.made w p A n c 42
  have hO := l10Ok_c _ w.heap.size A n c R xss p hX (hr.below hB0) hn
  have HB0 := Lib.hid hB0
  have HX := Lib.hid hX
  clear hp hw hz
  rcases hd : dsgB p xss with _ | _
  · rw [hd] at hO
    rw [show hdM p xss = [] by simp [hdM, hd], show hdC p xss = 1 by simp [hdC, hd]]
    have HO := Lib.hid hO
    clear hO hd hX hB0 hr hn
    go_enter Try.func52, Try.ntmps52
    go_wp2_with fail
    refine (HO.out).mono ?_
    rintro e w1 ⟨rfl, q0, rfl⟩
    have HB1 := Lib.hid (below_drewN HB0.out q0)
    go_wp2
    go_ret2
    exact ⟨⟨none, 0, 0, fun _ => (none, 0), rfl, rfl, OwnM.nil_ _ _ _⟩, HB1.out⟩
  rw [hd] at hO
  have HO := Lib.hid hO
  have hD := dsgB_true.1 hd
  obtain ⟨P, rfl⟩ : ∃ P : Nat, p = (P : Int) := ⟨p.toNat, by have := hD.1.1; omega⟩
  have hP1 : 1 ≤ P := by have := hD.1.1; omega
  have hP2 : P ≤ 32 := by have := hD.1.2; omega
  have HCa := fun (W : World) (hb : Below w.heap.size w W) (hx : BoxD W w.heap.size (P : Int) A n c) => l10Parameters_c W w.heap.size P A n c R xss hx (hr.below hb) hn hD
  by_cases hbal : BalOk P xss
  · have HC := Lib.hid HCa
    rw [parV_yes hbal] at HC
    unfold parA at HC
    have hl0 : (row xss 0).length ≤ 32 := Nat.le_trans (setB_len (hD.rows 0 hbal.2.1)) hP2
    have hl2 : 2 ≤ (row xss 0).length := hbal.2.2.1
    have hLb := parL_bd P xss hbal.1
    have HBal := Lib.hid hbal
    obtain ⟨N, hN⟩ : ∃ N : Int, N = ((row xss 0).length : Int) - 1 := ⟨_, rfl⟩
    obtain ⟨L, hL⟩ : ∃ L, L = parL P xss := ⟨_, rfl⟩
    obtain ⟨M, hM⟩ : ∃ M : Int, M = (xss.length : Int) := ⟨_, rfl⟩
    rw [show ((row xss 0).length : Int) = N + 1 by omega, ← hL, ← hM] at HC
    rw [← hL, ← hM] at hLb
    have hN1 : 1 ≤ N := by omega
    have hN2 : N ≤ 31 := by omega
    have hM1 : 0 ≤ M := by omega
    have hM2 : M ≤ 128 := by have := hD.2.1; omega
    have hL0 := hLb.1
    have hL2 : L ≤ 128 := by omega
    have HAff := Lib.hid (show hdOk P xss ↔ M = (P : Int) ∧ (P : Int) = 2 * (N + 1) + 1 ∧ N + 1 = 2 * L + 1 from by
      unfold hdOk
      rw [← hL, hM, hN]
      constructor
      · rintro ⟨_, a, b, d⟩; omega
      · rintro ⟨a, b, d⟩; exact ⟨HBal.out, by omega, by omega, by omega⟩)
    have HMn := Lib.hid (show M = (n : Int) by rw [hM, hn])
    generalize parR P xss = Rr at *
    by_cases hq1 : M = (P : Int)
    · have hd1 : (M != (P : Int)) = false := by simp [hq1]
      by_cases hq2 : (P : Int) = 2 * (N + 1) + 1
      · have hd2 : ((P : Int) != 2 * (N + 1) + 1) = false := by simp [hq2]
        by_cases hq3 : N + 1 = 2 * L + 1
        · have hd3 : (N + 1 != 2 * L + 1) = false := by simp [hq3]
          have hd4 : (N != 2 * L) = false := by simp; omega
          have hOk := HAff.out.2 ⟨hq1, hq2, hq3⟩
          have HF1 := Lib.hid (show hdM (P : Int) xss = sqTo (hdF xss) (P + 1) (P + 1) by unfold hdM; rw [if_pos ⟨hd, hOk⟩]; rfl)
          have HF2 := Lib.hid (show hdC (P : Int) xss = 0 by unfold hdC; rw [if_neg (by simp [hd]), show (P : Int).toNat = P from rfl, if_pos hOk])
          rw [HF1.out, HF2.out]
          have hnP : n = P := by have := HMn.out; omega
          have HR := Lib.hid hr
          have HN := Lib.hid hn
          have HnP := Lib.hid hnP
          clear hO HCa hd hX hB0 hr hn hD hbal hN hL hM hl0 hl2 hLb hq1 hq2 hq3 hOk hnP
          go_enter Try.func52, Try.ntmps52
          go_wp2_with fail
          refine (HO.out).mono ?_
          rintro e w1 ⟨rfl, q0, rfl⟩
          have HB1 := Lib.hid (below_drewN HB0.out q0)
          have HX1 := Lib.hid (HX.out.drewN q0)
          go_wp2_with fail
          refine (HC.out _ HB1.out HX1.out).mono ?_
          rintro e w2 ⟨rfl, hb2⟩
          have HB2 := Lib.hid (HB1.out.trans (hb2.mono HB1.out.size))
          have hz2 := HB2.out.size
          have HX2 := Lib.hid (HX1.out.below hb2)
          clear hb2
          have HI0 := Lib.hid (OwnI.lit1 (w2.alloc (.cells #[.int .i64 (P : Int), .int .i64 M, .int .i64 Rr, .int .i64 (N + 1), .int .i64 L] 80)) 1 (lo := w2.heap.size) (by simp))
          have HBa := Lib.hid ((below_boxed w2 (.cells #[.int .i64 (P : Int), .int .i64 M, .int .i64 Rr, .int .i64 (N + 1), .int .i64 L] 80)).alloc (by simp) (.cells #[.int .i64 1] 2))
          go_wp2
          have hH : (w2.alloc (.cells #[.int .i64 (P : Int), .int .i64 M, .int .i64 Rr, .int .i64 (N + 1), .int .i64 L] 80)).heap.size = w2.heap.size + 1 := by simp
          have HI1 := Lib.hid (show OwnI ((w2.alloc (.cells #[.int .i64 (P : Int), .int .i64 M, .int .i64 Rr, .int .i64 (N + 1), .int .i64 L] 80)).alloc (.cells #[.int .i64 1] 2)) w2.heap.size (some ⟨w2.heap.size + 1, 0, none⟩) 1 (rowTo (hdF xss) 0 1) by rw [← hH]; exact HI0.out)
          clear HI0 hH hd1 hd2 hd3 hd4
          generalize ((w2.alloc (.cells #[.int .i64 (P : Int), .int .i64 M, .int .i64 Rr, .int .i64 (N + 1), .int .i64 L] 80)).alloc (.cells #[.int .i64 1] 2)) = w3 at *
          have hf1 : ∀ y, hdF xss 0 y = 1 := fun y => by simp [hdF]
          have HF1b := Lib.hid hf1
          clear hf1
          go_loopw [6, 7] (fun f i wr => ∃ (x : Nat) (A2 : Option Addr) (c2 : Nat), x ≤ P ∧ i = .int .i64 x ∧ f = .slice A2 (x + 1) c2 ∧ Hid (OwnI wr w2.heap.size A2 c2 (rowTo (hdF xss) 0 (x + 1))) ∧ Hid (Below w2.heap.size w2 wr)) (fun _ i _ => P - (intOf i).toNat)
          case atStart => exact ⟨0, _, _, Nat.zero_le _, rfl, rfl, HI1, HBa⟩
          case round =>
            obtain ⟨x, A2, c2, hx, rfl, rfl, HI, HBr⟩ := hrel
            have hc0 := (HX2.out.below HBr.out).c0
            have hc1 := (HX2.out.below HBr.out).c1
            have hsz := HBr.out.size
            by_cases hlt : x < P
            · have HI2 := Lib.hid (HI.out.alloc (.cells #[.int .i64 1] 2))
              have HSu := Lib.hid (rowTo_succ (hdF xss) 0 (x + 1))
              go_wp2_with (at_builtin; refine wpI_append rfl _ _ rfl w2.heap.size _ _ _ (rowTo (hdF xss) 0 (x + 1)) 1 wr.heap.size rfl rfl (length_rowTo _ _ _) HI2.out (World.cell?_alloc_at _ _ _ _ rfl) (by omega) (by simp; omega) ?_; intro A4 c4 w4 ho4 hg4 ha4)
              have HB4 := Lib.hid ((HBr.out.alloc hsz _).trans (below_blk HI2.out hg4 (Nat.le_refl _) (by simp; omega)))
              have HO4 := Lib.hid (show OwnI w4 w2.heap.size A4 c4 (rowTo (hdF xss) 0 (x + 1 + 1)) by rw [HSu.out, HF1b.out]; exact ho4)
              clear ho4 hg4 ha4
              go_wp2
              go_roundw
              case rel => exact ⟨x + 1, A4, c4, by omega, by go_num, rfl, HO4, HB4⟩
              case measure => simp [intOf]; omega
            · obtain rfl : x = P := by omega
              have HOm := Lib.hid (OwnM.lit1 HI.out hsz)
              have HBm := Lib.hid (HBr.out.alloc hsz (.cells #[.slice A2 (rowTo (hdF xss) 0 (x + 1)).length c2] 29))
              rw [length_rowTo] at HOm HBm
              have HXm := Lib.hid (HX2.out.below HBm.out)
              go_wp2
              clear hc0 hc1
              have HOn := Lib.hid (show OwnM (wr.alloc (.cells #[.slice A2 (x + 1) c2] 29)) w2.heap.size (some ⟨wr.heap.size, 0, none⟩) 1 (fun _ => (A2, c2)) (sqTo (hdF xss) (x + 1) 1) from HOm.out)
              clear HOm
              generalize hAd : wr.heap.size = gg at *
              clear hAd
              generalize (wr.alloc (.cells #[.slice A2 (x + 1) c2] 29)) = w5 at *
              go_loopw [8, 9, 10, 11, 12] (fun o i _ _ _ wr => ∃ (i0 : Nat) (A3 : Option Addr) (c3 : Nat) (R3 : Spine), i0 ≤ n ∧ i = .int .i64 i0 ∧ o = .slice A3 (i0 + 1) c3 ∧ Hid (OwnM wr w2.heap.size A3 c3 R3 (sqTo (hdF xss) (x + 1) (i0 + 1))) ∧ Hid (Below w2.heap.size w2 wr)) (fun _ i _ _ _ _ => n - (intOf i).toNat)
              case atStart => exact ⟨0, _, _, _, Nat.zero_le _, rfl, rfl, HOn, HBm⟩
              case round =>
                obtain ⟨i0, A3, c3, R3, hi0, rfl, rfl, HOo, HBr3⟩ := hrel
                have hc1 := (HX2.out.below HBr3.out).c1
                have hc0 := (HX2.out.below HBr3.out).c0
                have hsz3 := HBr3.out.size
                obtain ⟨wo, hwo⟩ : ∃ wo, wo = wr := ⟨_, rfl⟩
                rw [← hwo] at HBr3 HOo hc1 hc0 hsz3 ⊢
                clear hwo
                by_cases hltn : i0 < n
                · have hkx : i0 < xss.length := by rw [HN.out]; exact hltn
                  obtain ⟨b1, off1, e1, hb1, hcc⟩ := HR.out.at_ i0 hkx
                  subst e1
                  have HCC := Lib.hid hcc
                  clear hcc
                  have HLit := Lib.hid (OwnI.lit1 wo 1 (Nat.le_refl wo.heap.size))
                  have HBl := Lib.hid (below_boxed wo (.cells #[.int .i64 1] 2))
                  have HL1 := Lib.hid (show OwnI (wo.alloc (.cells #[.int .i64 1] 2)) wo.heap.size (some ⟨wo.heap.size, 0, none⟩) 1 (rowTo (hdF xss) (i0 + 1) 1) from by
                    rw [show rowTo (hdF xss) (i0 + 1) 1 = [1] by simp [rowTo, hdF, List.range_succ]]; exact HLit.out)
                  have hio0 : (0 : Int) ≤ (i0 : Int) := by omega
                  have hio1 : (i0 : Int) < (n : Int) := by omega
                  clear HLit
                  go_wp2
                  clear hc0 hc1
                  generalize hw6 : (wo.alloc (.cells #[.int .i64 1] 2)) = w6 at *
                  clear hw6
                  go_loopw [10, 11, 12] (fun r i _ wr => ∃ (y : Nat) (A6 : Option Addr) (c6 : Nat), y ≤ x ∧ i = .int .i64 y ∧ r = .slice A6 (y + 1) c6 ∧ Hid (OwnI wr wo.heap.size A6 c6 (rowTo (hdF xss) (i0 + 1) (y + 1))) ∧ Hid (Below wo.heap.size wo wr)) (fun _ i _ _ => x - (intOf i).toNat)
                  case atStart => exact ⟨0, _, _, Nat.zero_le _, rfl, rfl, HL1, HBl⟩
                  case round =>
                    obtain ⟨y, A6, c6, hy, rfl, rfl, HI6, HB6⟩ := hrel
                    have HB6w := Lib.hid (HBr3.out.trans (HB6.out.mono hsz3))
                    have hc0 := (HX2.out.below HB6w.out).c0
                    have hc1 := (HX2.out.below HB6w.out).c1
                    have HB60 := Lib.hid (HB2.out.trans (HB6w.out.mono hz2))
                    have hcc := (HB60.out.cell (p := ⟨b1, off1 + i0, none⟩) hb1).trans HCC.out
                    have hsz6 := HB6.out.size
                    by_cases hlty : y < x
                    · have HH := Lib.hid (has_c wr (R i0).1 (row xss i0).length (R i0).2 (row xss i0) (y : Int) ((HR.out.rows i0 hkx).below HB60.out) rfl)
                      have HV := Lib.hid (show hdF xss (i0 + 1) (y + 1) = if hasB (row xss i0) (y : Int) = true then 1 else -1 by
                        unfold hdF
                        rw [if_neg (by omega), Nat.add_sub_cancel, show ((y + 1 : Nat) : Int) - 1 = (y : Int) by omega])
                      have HSu := Lib.hid (rowTo_succ (hdF xss) (i0 + 1) (y + 1))
                      generalize hasB (row xss i0) (y : Int) = q at *
                      cases q
                      · have HI7 := Lib.hid (HI6.out.alloc (.cells #[.int .i64 (-1)] 2))
                        go_wp2_with fail
                        refine (HH.out).mono ?_
                        rintro e w' ⟨rfl, rfl⟩
                        go_wp2_with (at_builtin; refine wpI_append rfl _ _ rfl wo.heap.size _ _ _ (rowTo (hdF xss) (i0 + 1) (y + 1)) (-1) wr.heap.size rfl rfl (length_rowTo _ _ _) HI7.out (World.cell?_alloc_at _ _ _ _ rfl) (by omega) (by simp; omega) ?_; intro A8 c8 w8 ho8 hg8 ha8)
                        have HB8 := Lib.hid ((HB6.out.alloc hsz6 _).trans (below_blk HI7.out hg8 (Nat.le_refl _) (by simp; omega)))
                        have HO8 := Lib.hid (show OwnI w8 wo.heap.size A8 c8 (rowTo (hdF xss) (i0 + 1) (y + 1 + 1)) by rw [HSu.out, HV.out]; exact ho8)
                        clear ho8 hg8 ha8
                        go_wp2
                        go_roundw
                        case rel => exact ⟨y + 1, A8, c8, by omega, by go_num, rfl, HO8, HB8⟩
                        case measure => simp [intOf]; omega
                      · have HI7 := Lib.hid (HI6.out.alloc (.cells #[.int .i64 1] 2))
                        go_wp2_with fail
                        refine (HH.out).mono ?_
                        rintro e w' ⟨rfl, rfl⟩
                        go_wp2_with (at_builtin; refine wpI_append rfl _ _ rfl wo.heap.size _ _ _ (rowTo (hdF xss) (i0 + 1) (y + 1)) 1 wr.heap.size rfl rfl (length_rowTo _ _ _) HI7.out (World.cell?_alloc_at _ _ _ _ rfl) (by omega) (by simp; omega) ?_; intro A8 c8 w8 ho8 hg8 ha8)
                        have HB8 := Lib.hid ((HB6.out.alloc hsz6 _).trans (below_blk HI7.out hg8 (Nat.le_refl _) (by simp; omega)))
                        have HO8 := Lib.hid (show OwnI w8 wo.heap.size A8 c8 (rowTo (hdF xss) (i0 + 1) (y + 1 + 1)) by rw [HSu.out, HV.out]; exact ho8)
                        clear ho8 hg8 ha8
                        go_wp2
                        go_roundw
                        case rel => exact ⟨y + 1, A8, c8, by omega, by go_num, rfl, HO8, HB8⟩
                        case measure => simp [intOf]; omega
                    · obtain rfl : y = x := by omega
                      have HO7 := Lib.hid ((HOo.out.below HB6.out).alloc (.cells #[.slice A6 (y + 1) c6] 29))
                      have HI7 := Lib.hid ((HI6.out.lower hsz3).alloc (.cells #[.slice A6 (y + 1) c6] 29))
                      have HAp := Lib.hid (later_apart HOo.out HI6.out)
                      have hsz7 := HB6w.out.size
                      have hi32 : i0 < 32 := by have := HnP.out; omega
                      go_wp2_with (at_builtin; refine wpM_append rfl _ _ rfl w2.heap.size _ _ _ R3 (sqTo (hdF xss) (y + 1) (i0 + 1)) A6 (y + 1) c6 (rowTo (hdF xss) (i0 + 1) (y + 1)) wr.heap.size rfl rfl (length_sqTo _ _ _) (length_rowTo _ _ _) HO7.out HI7.out HAp.out (World.cell?_alloc_at _ _ _ _ rfl) (by omega) (by simp; omega) ?_; intro A8 c8 R8 w8 ho8 hg8 ha8)
                      have HB8 := Lib.hid ((HB6w.out.alloc hsz7 _).trans (below_blkM HO7.out hg8 (Nat.le_refl _) (by simp; omega)))
                      have HSu := Lib.hid (sqTo_succ (hdF xss) (y + 1) (i0 + 1))
                      have HO8 := Lib.hid (show OwnM w8 w2.heap.size A8 c8 R8 (sqTo (hdF xss) (y + 1) (i0 + 1 + 1)) by rw [HSu.out]; exact ho8)
                      clear ho8 hg8 ha8
                      go_wp2
                      go_roundw
                      case rel => exact ⟨i0 + 1, A8, c8, R8, by omega, by go_num, rfl, HO8, HB8⟩
                      case measure => simp [intOf]; omega
                · obtain rfl : i0 = n := by omega
                  have HOf := Lib.hid (HOo.out.lower (lo' := w.heap.size) hz2)
                  have HBf := Lib.hid (HB2.out.trans (HBr3.out.mono hz2))
                  have HLn := Lib.hid (length_sqTo (hdF xss) (x + 1) (i0 + 1))
                  have HOx := Lib.hid (show OwnM wo w.heap.size A3 c3 R3 (sqTo (hdF xss) (x + 1) (x + 1)) by have := HnP.out; subst this; exact HOf.out)
                  have HLx := Lib.hid (show (sqTo (hdF xss) (x + 1) (x + 1)).length = i0 + 1 by rw [length_sqTo, HnP.out])
                  go_wp2
                  go_ret2
                  exact ⟨⟨A3, i0 + 1, c3, R3, rfl, HLx.out, HOx.out⟩, HBf.out⟩
        · have hd3 : (N + 1 != 2 * L + 1) = true := by rw [bne_iff_ne]; exact hq3
          have hd4 : (N != 2 * L) = true := by rw [bne_iff_ne]; omega
          have HF1 := Lib.hid (show hdM (P : Int) xss = [] by unfold hdM; rw [if_neg (fun h => hq3 (HAff.out.1 h.2).2.2)])
          have HF2 := Lib.hid (show hdC (P : Int) xss = 6 by unfold hdC; rw [if_neg (by simp [hd]), show (P : Int).toNat = P from rfl, if_neg (fun h => hq3 (HAff.out.1 h).2.2)])
          rw [HF1.out, HF2.out]
          clear hO HCa hd hX hB0 hr hn hD hbal hN hL hM hl0 hl2 hLb hq1 hq2 hq3
          go_enter Try.func52, Try.ntmps52
          go_wp2_with fail
          refine (HO.out).mono ?_
          rintro e w1 ⟨rfl, q0, rfl⟩
          have HB1 := Lib.hid (below_drewN HB0.out q0)
          have HX1 := Lib.hid (HX.out.drewN q0)
          go_wp2_with fail
          refine (HC.out _ HB1.out HX1.out).mono ?_
          rintro e w2 ⟨rfl, hb2⟩
          have HB2 := Lib.hid (HB1.out.trans (hb2.mono HB1.out.size))
          have hz2 := HB2.out.size
          have HX2 := Lib.hid (HX1.out.below hb2)
          clear hb2
          go_wp2
          go_ret2
          exact ⟨⟨none, 0, 0, fun _ => (none, 0), rfl, rfl, OwnM.nil_ _ _ _⟩, HB2.out.alloc hz2 _⟩
      · have hd2 : ((P : Int) != 2 * (N + 1) + 1) = true := by rw [bne_iff_ne]; exact hq2
        have HF1 := Lib.hid (show hdM (P : Int) xss = [] by unfold hdM; rw [if_neg (fun h => hq2 (HAff.out.1 h.2).2.1)])
        have HF2 := Lib.hid (show hdC (P : Int) xss = 6 by unfold hdC; rw [if_neg (by simp [hd]), show (P : Int).toNat = P from rfl, if_neg (fun h => hq2 (HAff.out.1 h).2.1)])
        rw [HF1.out, HF2.out]
        clear hO HCa hd hX hB0 hr hn hD hbal hN hL hM hl0 hl2 hLb hq1 hq2
        go_enter Try.func52, Try.ntmps52
        go_wp2_with fail
        refine (HO.out).mono ?_
        rintro e w1 ⟨rfl, q0, rfl⟩
        have HB1 := Lib.hid (below_drewN HB0.out q0)
        have HX1 := Lib.hid (HX.out.drewN q0)
        go_wp2_with fail
        refine (HC.out _ HB1.out HX1.out).mono ?_
        rintro e w2 ⟨rfl, hb2⟩
        have HB2 := Lib.hid (HB1.out.trans (hb2.mono HB1.out.size))
        have hz2 := HB2.out.size
        have HX2 := Lib.hid (HX1.out.below hb2)
        clear hb2
        go_wp2
        go_ret2
        exact ⟨⟨none, 0, 0, fun _ => (none, 0), rfl, rfl, OwnM.nil_ _ _ _⟩, HB2.out.alloc hz2 _⟩
    · have hd1 : (M != (P : Int)) = true := by rw [bne_iff_ne]; exact hq1
      have HF1 := Lib.hid (show hdM (P : Int) xss = [] by unfold hdM; rw [if_neg (fun h => hq1 (HAff.out.1 h.2).1)])
      have HF2 := Lib.hid (show hdC (P : Int) xss = 6 by unfold hdC; rw [if_neg (by simp [hd]), show (P : Int).toNat = P from rfl, if_neg (fun h => hq1 (HAff.out.1 h).1)])
      rw [HF1.out, HF2.out]
      clear hO HCa hd hX hB0 hr hn hD hbal hN hL hM hl0 hl2 hLb hq1
      go_enter Try.func52, Try.ntmps52
      go_wp2_with fail
      refine (HO.out).mono ?_
      rintro e w1 ⟨rfl, q0, rfl⟩
      have HB1 := Lib.hid (below_drewN HB0.out q0)
      have HX1 := Lib.hid (HX.out.drewN q0)
      go_wp2_with fail
      refine (HC.out _ HB1.out HX1.out).mono ?_
      rintro e w2 ⟨rfl, hb2⟩
      have HB2 := Lib.hid (HB1.out.trans (hb2.mono HB1.out.size))
      have hz2 := HB2.out.size
      have HX2 := Lib.hid (HX1.out.below hb2)
      clear hb2
      go_wp2
      go_ret2
      exact ⟨⟨none, 0, 0, fun _ => (none, 0), rfl, rfl, OwnM.nil_ _ _ _⟩, HB2.out.alloc hz2 _⟩
  · have HC := Lib.hid HCa
    rw [parV_no hbal] at HC
    rw [show hdM (P : Int) xss = [] by unfold hdM; rw [if_neg (fun h => hbal h.2.1)], show hdC (P : Int) xss = 6 by unfold hdC; rw [if_neg (by simp [hd]), show (P : Int).toNat = P from rfl, if_neg (fun h => hbal h.1)]]
    clear hO HCa hd hX hB0 hr hn hD hbal
    go_enter Try.func52, Try.ntmps52
    go_wp2_with fail
    refine (HO.out).mono ?_
    rintro e w1 ⟨rfl, q0, rfl⟩
    have HB1 := Lib.hid (below_drewN HB0.out q0)
    have HX1 := Lib.hid (HX.out.drewN q0)
    go_wp2_with fail
    refine (HC.out _ HB1.out HX1.out).mono ?_
    rintro e w2 ⟨rfl, hb2⟩
    have HB2 := Lib.hid (HB1.out.trans (hb2.mono HB1.out.size))
    have hz2 := HB2.out.size
    have HX2 := Lib.hid (HX1.out.below hb2)
    clear hb2
    go_wp2
    go_ret2
    exact ⟨⟨none, 0, 0, fun _ => (none, 0), rfl, rfl, OwnM.nil_ _ _ _⟩, HB2.out.alloc hz2 _⟩
end Go.Proofs.Ytnpbkkglnbobaaa
