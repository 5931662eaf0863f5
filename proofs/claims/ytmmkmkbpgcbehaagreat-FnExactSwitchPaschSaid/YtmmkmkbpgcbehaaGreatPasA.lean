/-
  Quadrilaterals in the program: hasList, the closures of paschsOf. Conditions: those of each theorem.
-/
import Derived.Test.YtmmkmkbpgcbehaaGreatPasC
import Derived.Test.YtmmkmkbpgcbehaaGreatGb
import Derived.Deep.RegionHeld3
namespace Go.Proofs.YtmmkmkbpgcbehaaGreat
open Go.RowKit
set_option linter.unusedVariables false
set_option linter.unusedSimpArgs false

set_option maxHeartbeats 1000000 in
theorem hasList1_c (W : World) (Bx : Nat) (A : Option Addr) (n c : Nat) (xs : List Int) (hr : RdI W A c xs) (hn : xs.length = n) (B : Option Addr) (m d : Nat) (p : List Int) (hX : W.cell? ⟨Bx, 0, none⟩ = some (.slice B m d)) (hp : RdI W B d p) (hm : p.length = m) :
    Calls Tryz.prog 65 #[.slice A n c, .pointer (some ⟨Bx, 0, none⟩)] W (PostV W (.bool (decide (xs = p)))) := by
  have HEq := Lib.hid (equalQ_c W hr hp hn hm)
  clear hr hn hp hm
  go_enter Tryz.func65, Tryz.ntmps65
  go_wp2_with fail
  refine (HEq.out).mono ?_
  rintro e w' ⟨rfl, q, rfl⟩
  go_wp2
  go_ret
  exact ⟨rfl, below_drewN (Below.refl _ _) q⟩
set_option maxHeartbeats 1000000 in
theorem hasList_c (w : World) (A : Option Addr) (n c : Nat) (R : Spine) (xss : List (List Int)) (hr : RdM w A c R xss) (hn : xss.length = n) (B : Option Addr) (m d : Nat) (p : List Int) (hp : RdI w B d p) (hm : p.length = m) :
    Calls Tryz.prog 33 #[.slice A n c, .slice B m d] w (PostV w (.bool (fdB xss p))) := by
  have hmf : ∀ (fn : Fn) (first cap : Array Value) (w : World), (Instr.makeFunc fn first cap).run Tryz.prog w = .ok (.func fn first cap) w := fun _ _ _ _ => rfl
  have hB0 := below_boxed w (.cells #[.slice B m d] 35)
  have HX := Lib.hid (show (w.alloc (.cells #[.slice B m d] 35)).cell? ⟨w.heap.size, 0, none⟩ = some (.slice B m d) from World.cell?_alloc_at _ _ _ _ rfl)
  have eg := enters_of Tryz.func65 (by kernel_rfl) rfl
  have HC := Lib.hid (containsFuncM (w.alloc (.cells #[.slice B m d] 35)) A n c R xss 65 #[.pointer (some ⟨w.heap.size, 0, none⟩)] (fun k => decide (row xss k = p)) eg (hr.below hB0) hn (fun W k hk hBW =>
    hasList1_c W w.heap.size _ _ _ (row xss k) (((hr.below hB0).rows k (by omega)).below hBW) rfl B m d p ((hBW.cell (p := ⟨w.heap.size, 0, none⟩) (by simp)).trans HX.out) ((hp.below hB0).below hBW) hm))
  have HF := Lib.hid (show anyTo (fun k => decide (row xss k = p)) n = fdB xss p from by
    unfold fdB
    rw [Bool.eq_iff_iff, anyTo_true, decide_eq_true_eq, mem_row, hn]
    simp)
  have HB0 := Lib.hid hB0
  clear hr hn hp hm hB0 eg
  go_enter Tryz.func33, Tryz.ntmps33
  go_wp2_with fail
  refine (HC.out).mono ?_
  rintro e w' ⟨rfl, hb⟩
  have HB1 := Lib.hid (HB0.out.trans (hb.mono (by simp)))
  clear hb
  go_wp2
  go_ret
  exact ⟨ret_b HF.out, HB1.out⟩

theorem keepQ5 {lo : Nat} {w w' : World} {p1 p2 p3 p4 p5 : Addr} {v1 v2 v3 v4 v5 : Option Value} (hb : Below lo w w') (h1 : p1.block < lo) (h2 : p2.block < lo) (h3 : p3.block < lo) (h4 : p4.block < lo) (h5 : p5.block < lo)
    (h : w.cell? p1 = v1 ∧ w.cell? p2 = v2 ∧ w.cell? p3 = v3 ∧ w.cell? p4 = v4 ∧ w.cell? p5 = v5) : w'.cell? p1 = v1 ∧ w'.cell? p2 = v2 ∧ w'.cell? p3 = v3 ∧ w'.cell? p4 = v4 ∧ w'.cell? p5 = v5 :=
  ⟨(hb.cell h1).trans h.1, (hb.cell h2).trans h.2.1, (hb.cell h3).trans h.2.2.1, (hb.cell h4).trans h.2.2.2.1, (hb.cell h5).trans h.2.2.2.2⟩

set_option maxRecDepth 100000 in
set_option maxHeartbeats 4000000 in
/-- Whether a block is the one of two points. -/
theorem pq11_c (W : World) (bx by_ bt P x y : Nat) (Ta : Option Addr) (cT : Nat) (RT : Spine) (f : Nat → Nat → Int) (hT : RdM W Ta cT RT (sqTo f P P)) (hx : x < P) (hy : y < P) (hcx : W.cell? ⟨bx, 0, none⟩ = some (.int .i64 (x : Int))) (hcy : W.cell? ⟨by_, 0, none⟩ = some (.int .i64 (y : Int))) (hct : W.cell? ⟨bt, 0, none⟩ = some (.slice Ta P cT))
    (A : Option Addr) (n c : Nat) (xs : List Int) (hr : RdI W A c xs) (hn : xs.length = n) :
    Calls Tryz.prog 52 #[.slice A n c, .pointer (some ⟨bx, 0, none⟩), .pointer (some ⟨by_, 0, none⟩), .pointer (some ⟨bt, 0, none⟩)] W (PostV W (.bool (decide (xs = trp (x : Int) (y : Int) (f x y))))) := by
  obtain ⟨b, off, b', off', C, rfl, hb, hc1, hb', hc2⟩ := hT.sq_at hx hy
  obtain ⟨v, hv⟩ : ∃ v, v = f x y := ⟨_, rfl⟩
  rw [← hv] at hc2 ⊢
  have h1 : bx < W.heap.size := cell_size hcx
  have h2 : by_ < W.heap.size := cell_size hcy
  have h3 : bt < W.heap.size := cell_size hct
  have hS : W.drew.cell? ⟨bx, 0, none⟩ = some (.int .i64 (x : Int)) ∧ W.drew.cell? ⟨by_, 0, none⟩ = some (.int .i64 (y : Int)) ∧ W.drew.cell? ⟨bt, 0, none⟩ = some (.slice (some ⟨b, off, none⟩) P cT) ∧ W.drew.cell? ⟨b, off + x, none⟩ = some (.slice (some ⟨b', off', none⟩) P C) ∧ W.drew.cell? ⟨b', off' + y, none⟩ = some (.int .i64 v) := ⟨hcx, hcy, hct, hc1, hc2⟩
  have HTr := Lib.hid (triple_c W.drew (x : Int) (y : Int) v)
  have HEq := Lib.hid (fun (W' : World) (A' : Option Addr) (n' c' : Nat) (hb : Below W.heap.size W W') (ho : RdI W' A' c' (trp (x : Int) (y : Int) v)) (hn' : (trp (x : Int) (y : Int) v).length = n') => equalQ_c W' (hr.below hb) ho hn hn')
  have hBd : Below W.heap.size W W.drew := (Below.refl _ _).drew
  have hK := fun (W' : World) (hbW : Below W.drew.heap.size W.drew W') => keepQ5 (p1 := ⟨bx, 0, none⟩) (p2 := ⟨by_, 0, none⟩) (p3 := ⟨bt, 0, none⟩) (p4 := ⟨b, off + x, none⟩) (p5 := ⟨b', off' + y, none⟩) hbW h1 h2 h3 hb hb' hS
  have hx0 : (0 : Int) ≤ (x : Int) := by omega
  have hx1 : (x : Int) < (P : Int) := by omega
  have hy0 : (0 : Int) ≤ (y : Int) := by omega
  have hy1 : (y : Int) < (P : Int) := by omega
  clear hT hcx hcy hct hc1 hc2 hr hn hv
  go_enter Tryz.func52, Tryz.ntmps52
  go_wp2
  go_region_held3 (fun w' => w'.cell? ⟨bx, 0, none⟩ = some (.int .i64 (x : Int)) ∧ w'.cell? ⟨by_, 0, none⟩ = some (.int .i64 (y : Int)) ∧ w'.cell? ⟨bt, 0, none⟩ = some (.slice (some ⟨b, off, none⟩) P cT) ∧ w'.cell? ⟨b, off + x, none⟩ = some (.slice (some ⟨b', off', none⟩) P C) ∧ w'.cell? ⟨b', off' + y, none⟩ = some (.int .i64 v)) (first | exact hS | exact hS7 | exact hS8)
    (first | (go_at_call 54; (with_reducible refine (HTr.out).mono ?_); rintro e w7 ⟨⟨A7, n7, c7, rfl, hn7, ho7⟩, hb7⟩; have hS7 := hK w7 hb7) | (go_at_call 53; (with_reducible refine (HEq.out w7 A7 n7 c7 (hBd.trans (hb7.mono hBd.size)) ho7.rd hn7).mono ?_); rintro e w8 ⟨rfl, q8, rfl⟩; have hS8 : (w7.drewN q8).cell? ⟨bx, 0, none⟩ = some (.int .i64 (x : Int)) ∧ (w7.drewN q8).cell? ⟨by_, 0, none⟩ = some (.int .i64 (y : Int)) ∧ (w7.drewN q8).cell? ⟨bt, 0, none⟩ = some (.slice (some ⟨b, off, none⟩) P cT) ∧ (w7.drewN q8).cell? ⟨b, off + x, none⟩ = some (.slice (some ⟨b', off', none⟩) P C) ∧ (w7.drewN q8).cell? ⟨b', off' + y, none⟩ = some (.int .i64 v) := hS7) | fail "no arm")
  have HB8 := Lib.hid (below_drewN (hBd.trans (hb7.mono hBd.size)) q8)
  clear hS hS7 hS8 hK hb7 ho7 hn7
  go_wp2
  go_ret
  exact ⟨rfl, HB8.out⟩

set_option maxHeartbeats 4000000 in
/-- The block of two points, as the program's closure finds it. -/
theorem pq1_c (W : World) (bd bt P x y : Nat) (Ta : Option Addr) (cT : Nat) (RT : Spine) (A : Option Addr) (n c : Nat) (R : Spine) (xss : List (List Int)) (hX : BoxD W bd (P : Int) A n c) (hr : RdM W A c R xss) (hn : xss.length = n) (hct : W.cell? ⟨bt, 0, none⟩ = some (.slice Ta P cT))
    (hT : RdM W Ta cT RT (sqTo (thF xss xss.length) P P)) (hTS : TripSys P xss) (hne : x ≠ y) (hx : x < P) (hy : y < P) :
    Calls Tryz.prog 50 #[.int .i64 (x : Int), .int .i64 (y : Int), .pointer (some ⟨bd, 0, none⟩), .pointer (some ⟨bt, 0, none⟩)] W (PostV W (.int .i64 ((ikF xss x y : Nat) : Int))) := by
  have hmf : ∀ (fn : Fn) (first cap : Array Value) (w : World), (Instr.makeFunc fn first cap).run Tryz.prog w = .ok (.func fn first cap) w := fun _ _ _ _ => rfl
  have hB2 : Below W.heap.size W ((W.alloc (.cells #[.int .i64 (x : Int)] 2)).alloc (.cells #[.int .i64 (y : Int)] 2)) := (below_boxed W _).alloc (by simp) _
  have hc1 := (hX.below hB2).c1
  have hbt : bt < W.heap.size := cell_size hct
  have HXx := Lib.hid (show ((W.alloc (.cells #[.int .i64 (x : Int)] 2)).alloc (.cells #[.int .i64 (y : Int)] 2)).cell? ⟨W.heap.size, 0, none⟩ = some (.int .i64 (x : Int)) from by
    rw [World.cell?_alloc_past _ _ _ (by simp), World.cell?_alloc_at _ _ _ _ rfl]; rfl)
  have HXy := Lib.hid (show ((W.alloc (.cells #[.int .i64 (x : Int)] 2)).alloc (.cells #[.int .i64 (y : Int)] 2)).cell? ⟨W.heap.size + 1, 0, none⟩ = some (.int .i64 (y : Int)) from by
    rw [World.cell?_alloc_at _ _ _ _ (by simp)]; rfl)
  have hsz : ((W.alloc (.cells #[.int .i64 (x : Int)] 2)).alloc (.cells #[.int .i64 (y : Int)] 2)).heap.size = W.heap.size + 2 := by simp
  have eg := enters_of Tryz.func52 (by kernel_rfl) rfl
  have HC := Lib.hid (indexFuncM ((W.alloc (.cells #[.int .i64 (x : Int)] 2)).alloc (.cells #[.int .i64 (y : Int)] 2)) A n c R xss 52 #[.pointer (some ⟨W.heap.size, 0, none⟩), .pointer (some ⟨W.heap.size + 1, 0, none⟩), .pointer (some ⟨bt, 0, none⟩)] (fun k => decide (row xss k = trp (x : Int) (y : Int) (thF xss xss.length x y))) eg (hr.below hB2) hn (fun W' k hk hBW =>
    pq11_c W' W.heap.size (W.heap.size + 1) bt P x y Ta cT RT (thF xss xss.length) ((hT.below hB2).below hBW) hx hy ((hBW.cell (p := ⟨W.heap.size, 0, none⟩) (by simp; omega)).trans HXx.out) ((hBW.cell (p := ⟨W.heap.size + 1, 0, none⟩) (by simp)).trans HXy.out) ((hBW.cell (p := ⟨bt, 0, none⟩) (by simp; omega)).trans ((hB2.cell (p := ⟨bt, 0, none⟩) hbt).trans hct))
      _ _ _ (row xss k) (((hr.below hB2).rows k (by omega)).below hBW) rfl))
  have HF := Lib.hid (show firstIdx (fun k => decide (row xss k = trp (x : Int) (y : Int) (thF xss xss.length x y))) n = ((ikF xss x y : Nat) : Int) from by
    obtain ⟨_, _, _, _, _, hik, _, _⟩ := hTS.look hne hx hy
    rw [← hn]
    refine firstIdx_hit hik (decide_eq_true ((hTS.ik_row hne hx hy hik).2 rfl)) fun j hj => decide_eq_false fun e => ?_
    have := (hTS.ik_row hne hx hy (show j < xss.length by omega)).1 e
    omega)
  have HB2 := Lib.hid hB2
  clear hX hr hn hct hT hTS hne hB2 eg
  go_enter Tryz.func50, Tryz.ntmps50
  go_wp2_with fail
  refine (HC.out).mono ?_
  rintro e w' ⟨rfl, hb⟩
  have HB1 := Lib.hid (HB2.out.trans (hb.mono (by simp; omega)))
  clear hb hc1
  go_wp2
  go_ret
  exact ⟨ret_i HF.out, HB1.out⟩
end Go.Proofs.YtmmkmkbpgcbehaaGreat
