/-
  Quadrilaterals in the reference: l11Index, l11Quads. Conditions: those of each theorem.
-/
import Derived.Test.YtmmkmkbpgcbehaaGreatPasA
import Derived.Test.YtmmkmkbpgcbehaaGreatGb
namespace Go.Proofs.YtmmkmkbpgcbehaaGreat
open Go.RowKit
set_option linter.unusedVariables false
set_option linter.unusedSimpArgs false

theorem stopS {p : Prop} (h : Hid p) : p := h.out
theorem OwnI.twoS {w : World} {lo : Nat} {A : Option Addr} {c : Nat} {x y : Int} (h : OwnI w lo A c [x, y]) : ∃ g, A = some ⟨g, 0, none⟩ ∧ lo ≤ g ∧ g < w.heap.size ∧ w.cell? ⟨g, 0, none⟩ = some (.int .i64 x) ∧ w.cell? ⟨g, 1, none⟩ = some (.int .i64 y) := by
  obtain ⟨g, e, h1, h2, h3, _⟩ := h.at_ (k := 0) (by simp)
  obtain ⟨g', e', _, _, h4, _⟩ := h.at_ (k := 1) (by simp)
  rw [e] at e'
  injection e' with e'
  injection e' with e'
  subst e'
  exact ⟨g, e, h1, h2, h3, h4⟩
theorem keepS2 {lo : Nat} {w w' : World} {p1 p2 : Addr} {v1 v2 : Option Value} (hb : Below lo w w') (h1 : p1.block < lo) (h2 : p2.block < lo) (h : w.cell? p1 = v1 ∧ w.cell? p2 = v2) : w'.cell? p1 = v1 ∧ w'.cell? p2 = v2 :=
  ⟨(hb.cell h1).trans h.1, (hb.cell h2).trans h.2⟩

set_option maxRecDepth 100000 in
set_option maxHeartbeats 4000000 in
/-- The block of three points, looked up. -/
theorem l11Index_c (w : World) (Bx P : Nat) (A : Option Addr) (n c : Nat) (R : Spine) (xss : List (List Int)) (hx : BoxD w Bx (P : Int) A n c) (hr : RdM w A c R xss) (hn : xss.length = n) (hD : DsgOk (P : Int) xss) (hT : TripSys P xss)
    (f a b : Nat) (hne : a ≠ b) (ha : a < P) (hb : b < P) (hf : thF xss xss.length a b = (f : Int)) (hfa : f ≠ a) (hfb : f ≠ b) :
    Calls Tryz.prog 76 #[.pointer (some ⟨Bx, 0, none⟩), .int .i64 (f : Int), .int .i64 (a : Int), .int .i64 (b : Int)] w (PostV w (.int .i64 ((ikF xss a b : Nat) : Int))) := by
  have hn128 : n ≤ 128 := by have := hD.2.1; omega
  have hst := trip_strict hD hT
  obtain ⟨_, _, _, _, _, hik, _, _⟩ := hT.look hne ha hb
  have hrow : row xss (ikF xss a b) = trp (f : Int) (a : Int) (b : Int) := by
    rw [(hT.ik_row hne ha hb hik).2 rfl, hf]
    unfold trp
    exact sortQ_perm ((List.Perm.swap _ _ _).cons _ |>.trans (List.Perm.swap _ _ _))
  have hlo : loI xss (trp (f : Int) (a : Int) (b : Int)) = ikF xss a b := by rw [← hrow]; exact loI_at hst hik
  have HBk := Lib.hid (l11Block_t w.drew (x := (f : Int)) (y := (a : Int)) (z := (b : Int)) (by omega) (by omega) (by omega))
  have HFd := Lib.hid (fun (W : World) (A' : Option Addr) (n' c' : Nat) (hbW : Below w.heap.size w W) (ho : RdI W A' c' (trp (f : Int) (a : Int) (b : Int))) (hn' : (trp (f : Int) (a : Int) (b : Int)).length = n') => (show Calls Tryz.prog 27 #[.slice A n c, .slice A' n' c'] W (EndQ (.tuple #[.int .i64 ((ikF xss a b : Nat) : Int), .bool (fdB xss (trp (f : Int) (a : Int) (b : Int)))]) W) from by
    have := l05Find_c W A n c R xss (hr.below hbW) hn hst (by omega) A' n' c' (trp (f : Int) (a : Int) (b : Int)) ho hn'
    rwa [hlo] at this))
  have hS : w.drew.cell? ⟨Bx, 1, none⟩ = some (.slice A n c) := hx.c1
  have hBx : Bx < w.drew.heap.size := hx.lt
  have hBd : Below w.heap.size w w.drew := (Below.refl _ _).drew
  generalize ikF xss a b = k at *
  generalize fdB xss (trp (f : Int) (a : Int) (b : Int)) = fd at *
  clear hx hr hn hD hT hst hik hrow hlo hf
  go_enter Tryz.func76, Tryz.ntmps76
  go_wp2
  go_region_held3 (fun w' => w'.cell? ⟨Bx, 1, none⟩ = some (.slice A n c)) (first | exact hS | exact hS7 | exact hS8)
    (first | (go_at_call 91; (with_reducible refine (HBk.out).mono ?_); rintro e w7 ⟨⟨A7, n7, c7, rfl, hn7, ho7⟩, hb7⟩; have hS7 := (hb7.cell (p := ⟨Bx, 1, none⟩) hBx).trans hS) | (go_at_call 27; (with_reducible refine (HFd.out w7 A7 n7 c7 (hBd.trans (hb7.mono hBd.size)) ho7.rd hn7).mono ?_); rintro e w8 ⟨rfl, q8, rfl⟩; have hS8 : (w7.drewN q8).cell? ⟨Bx, 1, none⟩ = some (.slice A n c) := hS7) | fail "no arm")
  have HB8 := Lib.hid (below_drewN (hBd.trans (hb7.mono hBd.size)) q8)
  clear hS hS7 hS8 hb7 ho7 hn7
  go_wp2
  go_ret
  exact ⟨rfl, HB8.out⟩

theorem nth_qX {xss : List (List Int)} {a b y0 y1 t : Nat} (h : qX xss b a = [(y0 : Int), (y1 : Int)]) (ht : t < 2) : nth [(y0 : Int), (y1 : Int)] t = ((sN (qX xss b a) t : Nat) : Int) := by
  rw [h]
  rcases (show t = 0 ∨ t = 1 by omega) with rfl | rfl <;> simp [nth, sN]

set_option maxRecDepth 100000 in
set_option maxHeartbeats 16000000 in
theorem l11Quads_c (w : World) (Bx P : Nat) (A : Option Addr) (n c : Nat) (R : Spine) (xss : List (List Int)) (hx : BoxD w Bx (P : Int) A n c) (hr : RdM w A c R xss) (hn : xss.length = n) (hD : DsgOk (P : Int) xss) (hT : TripSys P xss)
    (i k : Nat) (hik : i < k) (hk : k < n) (hm : qMeet xss i k) (z : Int) (hz : meetL (row xss i) (row xss k) = [z]) :
    Calls Tryz.prog 45 #[.pointer (some ⟨Bx, 0, none⟩), .int .i64 (i : Int), .int .i64 (k : Int), .int .i64 z] w (PostM w (qTo xss i k 2)) := by
  have hn128 : n ≤ 128 := by have := hD.2.1; omega
  have hix : i < xss.length := by omega
  have hkx : k < xss.length := by omega
  obtain ⟨pc, x0, x1, y0, y1, ⟨p0, p1, p2, p3, p4⟩, hm1, hm2, ex, ey, _, _, n0⟩ := hT.shape (show i ≠ k by omega) hix hkx hm
  obtain rfl : z = (pc : Int) := by rw [hz] at hm1; simpa using hm1
  have hsz : setB [(pc : Int)] 32 = true := setB_iff.2 ⟨by simp, fun v hv => by simp at hv; have := hD.1.2; omega, by omega⟩
  obtain ⟨b, off, rfl, hb, hc1⟩ := hr.at_ i hix
  obtain ⟨b', off', e, _, hc2⟩ := hr.at_ k hkx
  injection e with e
  injection e with e1 e2
  subst e1 e2
  rw [hT.three i hix] at hc1
  rw [hT.three k hkx] at hc2
  have HXm := Lib.hid (fun (W : World) (hbW : Below w.heap.size w W) (g : Nat) (hl : RdI W (some ⟨g, 0, none⟩) 1 [(pc : Int)]) => (show Calls Tryz.prog 30 #[.slice (R i).1 3 (R i).2, .slice (some ⟨g, 0, none⟩) 1 1] W (PostS W [(x0 : Int), (x1 : Int)]) from by
    have := specMinusSets_c W (R i).1 (some ⟨g, 0, none⟩) 3 1 (R i).2 1 (row xss i) [(pc : Int)] ((hr.below hbW).rows i hix) (hT.three i hix) hl rfl (setQ (hT.rows i hix)) hsz
    rwa [← hm1, show minusL (row xss i) (meetL (row xss i) (row xss k)) = qX xss i k from rfl, ex] at this))
  have HYm := Lib.hid (fun (W : World) (hbW : Below w.heap.size w W) (g : Nat) (hl : RdI W (some ⟨g, 0, none⟩) 1 [(pc : Int)]) => (show Calls Tryz.prog 30 #[.slice (R k).1 3 (R k).2, .slice (some ⟨g, 0, none⟩) 1 1] W (PostS W [(y0 : Int), (y1 : Int)]) from by
    have := specMinusSets_c W (R k).1 (some ⟨g, 0, none⟩) 3 1 (R k).2 1 (row xss k) [(pc : Int)] ((hr.below hbW).rows k hkx) (hT.three k hkx) hl rfl (setQ (hT.rows k hkx)) hsz
    rwa [← hm2, show minusL (row xss k) (meetL (row xss k) (row xss i)) = qX xss k i from rfl, ey] at this))
  have HTh := Lib.hid (fun (W : World) (hbW : Below w.heap.size w W) (u v : Nat) (huv : u ≠ v) (hu : u < P) (hv : v < P) => l11Third_c W Bx P _ n c R xss (hx.below hbW) (hr.below hbW) hn hD hT u v huv hu hv)
  have HIx := Lib.hid (fun (W : World) (hbW : Below w.heap.size w W) (f u v : Nat) (huv : u ≠ v) (hu : u < P) (hv : v < P) (hf : thF xss xss.length u v = (f : Int)) (h1 : f ≠ u) (h2 : f ≠ v) => l11Index_c W Bx P _ n c R xss (hx.below hbW) (hr.below hbW) hn hD hT f u v huv hu hv hf h1 h2)
  have HTr := Lib.hid hT
  have HN := Lib.hid hn
  have HEx := Lib.hid ex
  have HEy := Lib.hid ey
  have HN0 := Lib.hid n0
  have HPt := Lib.hid (And.intro p1 (And.intro p2 (And.intro p3 p4)))
  have HPut := Lib.hid (fun t (ht : t < 2) => hT.qd_put (show i ≠ k by omega) hix hkx hm ht)
  have hbx := hx.c1
  have HX := Lib.hid hx
  have hi0 : (0 : Int) ≤ (i : Int) := by omega
  have hi1 : (i : Int) < (n : Int) := by omega
  have hk0 : (0 : Int) ≤ (k : Int) := by omega
  have hk1 : (k : Int) < (n : Int) := by omega
  have HL1 := Lib.hid (OwnI.one w (pc : Int) (Nat.le_refl w.heap.size)).rd
  have HBl := Lib.hid (below_boxed w (.cells #[.int .i64 (pc : Int)] 2))
  have HC2 := Lib.hid hc2
  have HHb := Lib.hid hb
  clear hx hr hn hD hT hm hz hm1 hm2 ex ey n0 p0 p1 p2 p3 p4 hsz hc2 hb hix hkx
  go_enter Tryz.func45, Tryz.ntmps45
  go_wp2_with fail
  refine (HXm.out _ HBl.out _ HL1.out).mono ?_
  rintro e w3 ⟨⟨A3, n3, c3, rfl, hn3, ho3⟩, hb3⟩
  obtain rfl : n3 = 2 := hn3.symm
  have HB3 := Lib.hid (HBl.out.trans (hb3.mono HBl.out.size))
  have HP3 := Lib.hid (ho3.lower (lo' := w.heap.size) (by simp))
  have hs3 := HB3.out.size
  obtain ⟨gx, rfl, _, _, _, _⟩ := ho3.twoS
  have HL3 := Lib.hid (OwnI.one w3 (pc : Int) (Nat.le_refl w3.heap.size)).rd
  have HBl3 := Lib.hid (HB3.out.alloc hs3 (.cells #[.int .i64 (pc : Int)] 2))
  have hbx3 := (HB3.out.cell (p := ⟨Bx, 1, none⟩) HX.out.lt).trans hbx
  have hck3 := (HB3.out.cell (p := ⟨b, off + k, none⟩) HHb.out).trans HC2.out
  clear hn3 ho3 hb3
  go_wp2_with fail
  refine (HYm.out _ HBl3.out _ HL3.out).mono ?_
  rintro e w4 ⟨⟨A4, n4, c4, rfl, hn4, ho4⟩, hb4⟩
  obtain rfl : n4 = 2 := hn4.symm
  have HB4 := Lib.hid (HBl3.out.trans (hb4.mono HBl3.out.size))
  have HP4 := Lib.hid ((HP3.out.alloc (.cells #[.int .i64 (pc : Int)] 2)).below hb4)
  have HQ4 := Lib.hid (ho4.lower (lo' := w.heap.size) HBl3.out.size)
  have hs4 := HB4.out.size
  obtain ⟨gy, rfl, _, _, _, _⟩ := ho4.twoS
  clear hn4 ho4 hb4 hbx3 hck3 hbx hc1
  have HO0 := Lib.hid (show OwnM (w4.alloc (.cells #[] 35)) w.heap.size (some ⟨w4.heap.size, 0, none⟩) 0 (fun _ => (none, 0)) (qTo xss i k 0) from OwnM.lit0 w4 hs4 _)
  have HB0 := Lib.hid (HB4.out.alloc hs4 (.cells #[] 35))
  have HP0 := Lib.hid (HP4.out.alloc (.cells #[] 35))
  have HQ0 := Lib.hid (HQ4.out.alloc (.cells #[] 35))
  go_wp2
  go_loopw [11, 12, 13, 14, 15, 16] (fun o v _ _ _ _ wr => ∃ (t s : Nat) (A' : Option Addr) (c' : Nat) (R' : Spine), t ≤ 2 ∧ v = .int .i64 t ∧ o = .slice A' s c' ∧ s ≤ t ∧ Hid ((qTo xss i k t).length = s) ∧ Hid (OwnM wr w.heap.size A' c' R' (qTo xss i k t)) ∧ Hid (Below w.heap.size w wr) ∧ Hid (OwnI wr w.heap.size (some ⟨gx, 0, none⟩) c3 [(x0 : Int), (x1 : Int)]) ∧ Hid (OwnI wr w.heap.size (some ⟨gy, 0, none⟩) c4 [(y0 : Int), (y1 : Int)])) (fun _ v _ _ _ _ _ => 2 - (intOf v).toNat)
  case atStart => exact ⟨0, 0, _, _, _, Nat.zero_le _, rfl, rfl, Nat.le_refl _, Lib.hid rfl, HO0, HB0, HP0, HQ0⟩
  case round =>
    obtain ⟨t, s, A', c', R', ht, rfl, rfl, hst, HS, HO, HB, HP, HQ⟩ := hrel
    have hszr := HB.out.size
    by_cases ht2 : t < 2
    · obtain ⟨q1, q2, q3, q4⟩ := HPt.out
      have hn0 := HN0.out
      obtain ⟨ya, hya⟩ : ∃ y, y = sN (qX xss k i) t := ⟨_, rfl⟩
      obtain ⟨yb, hyb⟩ : ∃ y, y = sN (qX xss k i) (1 - t) := ⟨_, rfl⟩
      have hyy : (ya = y0 ∧ yb = y1) ∨ (ya = y1 ∧ yb = y0) := by
        rw [hya, hyb, HEy.out]
        rcases (show t = 0 ∨ t = 1 by omega) with rfl | rfl
        · exact .inl ⟨rfl, rfl⟩
        · exact .inr ⟨rfl, rfl⟩
      have hpx0 : x0 ≠ ya := by omega
      have hpx1 : x1 ≠ yb := by omega
      have hyaP : ya < P := by omega
      have hybP : yb < P := by omega
      obtain ⟨gx', e5, hgx0, hgx1, hp0, hp1⟩ := HP.out.twoS
      injection e5 with e5
      injection e5 with e5
      subst e5
      obtain ⟨gy', e6, hgy0, hgy1, hy0, _⟩ := HQ.out.at_ (k := t) (by simpa using ht2)
      injection e6 with e6
      injection e6 with e6
      subst e6
      obtain ⟨gy', e6, _, _, hy1, _⟩ := HQ.out.at_ (k := 1 - t) (by simp; omega)
      injection e6 with e6
      injection e6 with e6
      subst e6
      rw [nth_qX HEy.out ht2, ← hya] at hy0
      rw [nth_qX HEy.out (show 1 - t < 2 by omega), ← hyb] at hy1
      have hqc : qCond xss i k t = decide (thF xss xss.length x0 ya = thF xss xss.length x1 yb) := by unfold qCond; rw [HEx.out, ← hya, ← hyb]; rfl
      obtain ⟨f, hfP, hf1, hf2, hf3, hfk, _, _⟩ := HTr.out.look hpx0 q1 hyaP
      obtain ⟨f2, hfP2, hf21, hf22, hf23, hfk2, _, _⟩ := HTr.out.look hpx1 q2 hybP
      have HQo := Lib.hid (show qOne xss i k t = ikF xss x0 ya from by unfold qOne; rw [HEx.out, ← hya]; rfl)
      have HQt := Lib.hid (show qTwo xss i k t = ikF xss x1 yb from by unfold qTwo; rw [HEx.out, ← hyb]; rfl)
      have HT1 := Lib.hid (fun (W : World) (hbW : Below w.heap.size w W) => (show Calls Tryz.prog 75 #[.pointer (some ⟨Bx, 0, none⟩), .int .i64 (x0 : Int), .int .i64 (ya : Int)] W (EndQ (.int .i64 (f : Int)) W) from by
        rw [← hf3]; exact HTh.out W hbW x0 ya hpx0 q1 hyaP))
      have HT2 := Lib.hid (fun (W : World) (hbW : Below w.heap.size w W) => (show Calls Tryz.prog 75 #[.pointer (some ⟨Bx, 0, none⟩), .int .i64 (x1 : Int), .int .i64 (yb : Int)] W (EndQ (.int .i64 (f2 : Int)) W) from by
        rw [← hf23]; exact HTh.out W hbW x1 yb hpx1 q2 hybP))
      have HI1 := Lib.hid (fun (W : World) (hbW : Below w.heap.size w W) => HIx.out W hbW f x0 ya hpx0 q1 hyaP hf3 hf1 hf2)
      have HI2 := Lib.hid (fun (W : World) (hbW : Below w.heap.size w W) (e : f = f2) => (show Calls Tryz.prog 76 #[.pointer (some ⟨Bx, 0, none⟩), .int .i64 (f : Int), .int .i64 (x1 : Int), .int .i64 (yb : Int)] W (PostV W (.int .i64 ((ikF xss x1 yb : Nat) : Int))) from by
        rw [e]; exact HIx.out W hbW f2 x1 yb hpx1 q2 hybP hf23 hf21 hf22))
      rw [hf3, hf23] at hqc
      have ht0 : (0 : Int) ≤ (t : Int) := by omega
      have ht1 : (t : Int) < 2 := by omega
      have hsub : IntKind.i64.wrap (1 - (t : Int)) = ((1 - t : Nat) : Int) := by rw [show 1 - (t : Int) = ((1 - t : Nat) : Int) by omega]; exact IntWalk.i64_in _ (by omega)
      have hu0 : (0 : Int) ≤ ((1 - t : Nat) : Int) := by omega
      have hu1 : ((1 - t : Nat) : Int) < 2 := by omega
      have hik1 : ikF xss x0 ya < 128 := by have := HN.out; omega
      have hik2 : ikF xss x1 yb < 128 := by have := HN.out; omega
      obtain ⟨i1, hi1'⟩ : ∃ v, v = ikF xss x0 ya := ⟨_, rfl⟩
      obtain ⟨i2, hi2'⟩ : ∃ v, v = ikF xss x1 yb := ⟨_, rfl⟩
      rw [← hi1'] at HI1 HQo hik1
      rw [← hi2'] at HI2 HQt hik2
      have HPq := Lib.hid (show putL (putL (putL [(i : Int)] (k : Int)) (i1 : Int)) (i2 : Int) = qd xss i k t from by rw [← HPut.out t ht2, HQo.out, HQt.out])
      generalize hu : 1 - t = u at *
      clear hya hyb hyy hn0 hfk hfk2 hu hf1 hf2 hf21 hf22 hi1' hi2' hf3 hf23 hpx0 hpx1
      go_wp2
      go_quiet ((go_at_call 75; first | (with_reducible exact quiet_endN (HT1.out _ (below_drewN HB.out _))) | (with_reducible exact quiet_end0 (HT1.out _ (below_drewN HB.out _)))))
      have HOz := Lib.hid (HO.out.drewN nq)
      have HBz := Lib.hid (below_drewN HB.out nq)
      have HPz := Lib.hid (HP.out.drewN nq)
      have HQz := Lib.hid (HQ.out.drewN nq)
      have hz1 : (wr.drewN nq).cell? ⟨gx, 0, none⟩ = some (.int .i64 (x0 : Int)) := hp0
      have hz2 : (wr.drewN nq).cell? ⟨gx, 1, none⟩ = some (.int .i64 (x1 : Int)) := hp1
      have hz3 : (wr.drewN nq).cell? ⟨gy, t, none⟩ = some (.int .i64 (ya : Int)) := hy0
      have hz4 : (wr.drewN nq).cell? ⟨gy, u, none⟩ = some (.int .i64 (yb : Int)) := hy1
      clear hp0 hp1 hy0 hy1
      generalize wr.drewN nq = wz at *
      go_wp2
      go_quiet ((go_at_call 75; first | (with_reducible exact quiet_endN (HT2.out _ (below_drewN HBz.out _))) | (with_reducible exact quiet_end0 (HT2.out _ (below_drewN HBz.out _)))))
      have HOy := Lib.hid (HOz.out.drewN nq)
      have HBy := Lib.hid (below_drewN HBz.out nq)
      have HPy := Lib.hid (HPz.out.drewN nq)
      have HQy := Lib.hid (HQz.out.drewN nq)
      have hc1 : (wz.drewN nq).cell? ⟨gx, 0, none⟩ = some (.int .i64 (x0 : Int)) := hz1
      have hc2 : (wz.drewN nq).cell? ⟨gx, 1, none⟩ = some (.int .i64 (x1 : Int)) := hz2
      have hc3 : (wz.drewN nq).cell? ⟨gy, t, none⟩ = some (.int .i64 (ya : Int)) := hz3
      have hc4 : (wz.drewN nq).cell? ⟨gy, u, none⟩ = some (.int .i64 (yb : Int)) := hz4
      have hgx9 : gx < (wz.drewN nq).heap.size := cell_size hc1
      have hgy9 : gy < (wz.drewN nq).heap.size := cell_size hc3
      clear hz1 hz2 hz3 hz4
      generalize wz.drewN nq = wy at *
      rcases hq : qCond xss i k t with _ | _
      · have hvv : ((f : Int) == (f2 : Int)) = false := by rw [hq] at hqc; have := of_decide_eq_false hqc.symm; simpa using this
        have HNx := Lib.hid (qTo_miss hq)
        have HS9 := Lib.hid (show (qTo xss i k (t + 1)).length = s from by rw [HNx.out]; exact HS.out)
        have HO9 := Lib.hid (show OwnM wy w.heap.size A' c' R' (qTo xss i k (t + 1)) from by rw [HNx.out]; exact HOy.out)
        clear hq hqc hc1 hc2 hc3 hc4
        go_wp2
        go_roundw
        case rel => exact ⟨t + 1, s, A', c', R', by omega, by go_num, rfl, by omega, HS9, HO9, HBy, HPy, HQy⟩
        case measure => simp [intOf] <;> omega
      · have hff : f = f2 := by rw [hq] at hqc; have := of_decide_eq_true hqc.symm; omega
        have HNx := Lib.hid (qTo_hit hq)
        have HJ1 := Lib.hid (HI1.out wy.drew HBy.out.drew)
        have HJ2 := Lib.hid (fun (W : World) (hbW : Below w.heap.size w W) => HI2.out W hbW hff)
        have hvv : ((f : Int) == (f2 : Int)) = true := by rw [hff]; simp
        have hS : wy.drew.cell? ⟨gx, 0, none⟩ = some (.int .i64 (x0 : Int)) ∧ wy.drew.cell? ⟨gy, t, none⟩ = some (.int .i64 (ya : Int)) := ⟨hc1, hc3⟩
        have hT : wy.drew.cell? ⟨gx, 1, none⟩ = some (.int .i64 (x1 : Int)) ∧ wy.drew.cell? ⟨gy, u, none⟩ = some (.int .i64 (yb : Int)) := ⟨hc2, hc4⟩
        have hwz : wy.drew.heap.size = wy.heap.size := rfl
        have hszy : w.heap.size ≤ wy.heap.size := HBy.out.size
        clear hq hqc hc1 hc2 hc3 hc4
        subst hff
        go_wp2
        go_region_held3 (fun w' => w'.cell? ⟨gx, 0, none⟩ = some (.int .i64 (x0 : Int)) ∧ w'.cell? ⟨gy, t, none⟩ = some (.int .i64 (ya : Int))) (first | exact hS | exact hS5)
          (first | (go_at_call 76; (with_reducible refine (HJ1.out).mono ?_); rintro e w5 ⟨rfl, hb5⟩; have hS5 := keepS2 (p1 := ⟨gx, 0, none⟩) (p2 := ⟨gy, t, none⟩) hb5 hgx9 hgy9 hS) | fail "no arm")
        have hT5 := keepS2 (p1 := ⟨gx, 1, none⟩) (p2 := ⟨gy, u, none⟩) hb5 hgx9 hgy9 hT
        have hT6 : w5.drew.cell? ⟨gx, 1, none⟩ = some (.int .i64 (x1 : Int)) ∧ w5.drew.cell? ⟨gy, u, none⟩ = some (.int .i64 (yb : Int)) := hT5
        have HB5 := Lib.hid (show Below wy.drew.heap.size wy.drew w5 from hb5)
        have hs5 := hb5.size
        have HBw5 := Lib.hid (show Below w.heap.size w w5.drew from (HBy.out.drew.trans (hb5.mono hszy)).drew)
        have HK2 := Lib.hid (HJ2.out w5.drew HBw5.out)
        clear hS hS5 hT hT5 hb5
        go_wp2
        go_region_held3 (fun w' => w'.cell? ⟨gx, 1, none⟩ = some (.int .i64 (x1 : Int)) ∧ w'.cell? ⟨gy, u, none⟩ = some (.int .i64 (yb : Int))) (first | exact hT6 | exact hT7)
          (first | (go_at_call 76; (with_reducible refine (HK2.out).mono ?_); rintro e w6 ⟨rfl, hb6⟩; have hT7 := keepS2 (p1 := ⟨gx, 1, none⟩) (p2 := ⟨gy, u, none⟩) hb6 (Nat.lt_of_lt_of_le hgx9 hs5) (Nat.lt_of_lt_of_le hgy9 hs5) hT6) | fail "no arm")
        have HB6 := Lib.hid (show Below wy.drew.heap.size wy.drew w6 from HB5.out.drew.trans (hb6.mono hs5))
        have hs6 := HB6.out.size
        have HI6 := Lib.hid (OwnI.one w6 (i : Int) (Nat.le_refl w6.heap.size)).rd
        have HBl6 := Lib.hid (below_boxed w6 (.cells #[.int .i64 (i : Int)] 2))
        clear hT6 hT7 hb6 hsub
        go_wp2_with fail
        refine (l00Put_c _ _ 1 1 [(i : Int)] (k : Int) HI6.out rfl (by omega)).mono ?_
        rintro e w7 ⟨⟨A7, n7, c7, rfl, hn7, ho7⟩, hb7⟩
        have HB7 := Lib.hid (HBl6.out.trans (hb7.mono HBl6.out.size))
        have hn7' : n7 ≤ 1048576 := by have := putL_length [(i : Int)] (k : Int); simp at this; omega
        have HO7 := Lib.hid ho7
        have HN7 := Lib.hid hn7
        clear hb7 ho7 hn7
        go_wp2_with fail
        refine (l00Put_c _ _ n7 c7 (putL [(i : Int)] (k : Int)) (i1 : Int) HO7.out.rd HN7.out hn7').mono ?_
        rintro e w8 ⟨⟨A8, n8, c8, rfl, hn8, ho8⟩, hb8⟩
        have HB8 := Lib.hid (HB7.out.trans (hb8.mono HB7.out.size))
        have hn8' : n8 ≤ 1048576 := by have := putL_length [(i : Int)] (k : Int); have := putL_length (putL [(i : Int)] (k : Int)) (i1 : Int); simp at *; omega
        have HO8 := Lib.hid ho8
        have HN8 := Lib.hid hn8
        clear hb8 ho8 hn8
        go_wp2_with fail
        refine (l00Put_c _ _ n8 c8 (putL (putL [(i : Int)] (k : Int)) (i1 : Int)) (i2 : Int) HO8.out.rd HN8.out hn8').mono ?_
        rintro e wb ⟨⟨Ab, nb, cb, rfl, hnb, hob⟩, hbb⟩
        rw [HPq.out] at hnb hob
        have hbb6 := HB8.out.trans (hbb.mono HB8.out.size)
        have hbby := HB6.out.trans (hbb6.mono hs6)
        have HBb := Lib.hid (show Below w.heap.size w wb from HBy.out.drew.trans (hbby.mono hszy))
        have hszb := HBb.out.size
        have hlo8 : wy.drew.heap.size ≤ w8.heap.size := Nat.le_trans hs6 HB8.out.size
        have HOb := Lib.hid ((HOy.out.drew.below hbby).alloc (.cells #[.slice Ab nb cb] 35))
        have HIb := Lib.hid ((hob.lower (lo' := w.heap.size) (Nat.le_trans hszy hlo8)).alloc (.cells #[.slice Ab nb cb] 35))
        have HAb := Lib.hid (later_apart HOy.out.drew (hob.lower (lo' := wy.drew.heap.size) hlo8))
        have HPb := Lib.hid (((HPy.out.drewN 1).below hbby).alloc (.cells #[.slice Ab nb cb] 35))
        have HQb := Lib.hid (((HQy.out.drewN 1).below hbby).alloc (.cells #[.slice Ab nb cb] 35))
        have HNb := Lib.hid hnb
        clear hnb hob hbb hbb6 hbby
        go_wp2_with (at_builtin; refine wpM_append rfl _ _ rfl w.heap.size _ _ _ R' (qTo xss i k t) Ab nb cb (qd xss i k t) wb.heap.size rfl rfl HS.out HNb.out HOb.out HIb.out HAb.out (World.cell?_alloc_at _ _ _ _ rfl) (by omega) (by simp; omega) ?_; intro A9 c9 R9 w9 ho9 hg9 ha9)
        have HB9 := Lib.hid ((HBb.out.alloc HBb.out.size (.cells #[.slice Ab nb cb] 35)).trans (below_blkM HOb.out hg9 (Nat.le_refl _) (by simp; omega)))
        have HO9 := Lib.hid (show OwnM w9 w.heap.size A9 c9 R9 (qTo xss i k (t + 1)) from by rw [HNx.out]; exact ho9)
        have HS9 := Lib.hid (show (qTo xss i k (t + 1)).length = s + 1 from by rw [HNx.out, List.length_append, HS.out]; rfl)
        have HP9 := Lib.hid (OwnI.other_type HOb.out.own hg9 HPb.out)
        have HQ9 := Lib.hid (OwnI.other_type HOb.out.own hg9 HQb.out)
        clear ho9 hg9 ha9
        go_wp2
        go_roundw
        case rel => exact ⟨t + 1, s + 1, A9, c9, R9, by omega, by go_num, rfl, by omega, HS9, HO9, HB9, HP9, HQ9⟩
        case measure => simp [intOf] <;> omega
    · obtain rfl : t = 2 := by omega
      go_wp2
      go_ret
      exact ⟨⟨A', s, c', R', rfl, HS.out, HO.out⟩, HB.out⟩
end Go.Proofs.YtmmkmkbpgcbehaaGreat
