/-
  Pairs of symbols of two squares: superpose of the program, l07Over of the reference. Conditions: those of each theorem.
-/
import Derived.Test.YthgbfgdnljgicaaPomP
import Derived.Test.YthgbfgdnljgicaaQg
namespace Go.Proofs.Ythgbfgdnljgicaa
open Go.RowKit
set_option linter.unusedVariables false
set_option linter.unusedSimpArgs false

set_option maxHeartbeats 4000000 in
theorem sup1_c (W : World) (bn ba bb n b1 o1 c1 b2 o2 c2 : Nat) (fb fo fc gb go gc : Nat → Nat) (E F : Nat → Nat → Int) (h1 : Grid W n b1 o1 fb fo fc E) (h2 : Grid W n b2 o2 gb go gc F)
    (hcn : W.cell? ⟨bn, 0, none⟩ = some (.int .i64 (n : Int))) (hca : W.cell? ⟨ba, 0, none⟩ = some (.slice (some ⟨b1, o1, none⟩) n c1)) (hcb : W.cell? ⟨bb, 0, none⟩ = some (.slice (some ⟨b2, o2, none⟩) n c2))
    (x y u v : Nat) (hx : x < n) (hy : y < n) (hn : n ≤ 10) (hE : E x y = (u : Int)) (hF : F x y = (v : Int)) (hu : u < n) (hv : v < n) :
    Calls Try.prog 60 #[.int .i64 (x : Int), .int .i64 (y : Int), .pointer (some ⟨bn, 0, none⟩), .pointer (some ⟨ba, 0, none⟩), .pointer (some ⟨bb, 0, none⟩)] W (PostV W (.int .i64 ((n : Int) * E x y + F x y))) := by
  have hr1 := h1.row x hx
  have he1 := h1.ent x y hx hy
  have hr2 := h2.row x hx
  have he2 := h2.ent x y hx hy
  rw [hE] at he1 ⊢
  rw [hF] at he2 ⊢
  obtain ⟨m, hm⟩ : ∃ m, m = n * u := ⟨_, rfl⟩
  have hml : m ≤ 10 * 10 := by rw [hm]; exact Nat.mul_le_mul hn (by omega)
  have hmi : (n : Int) * (u : Int) = (m : Int) := by rw [hm, Int.natCast_mul]
  have hw1 : IntKind.i64.wrap ((n : Int) * (u : Int)) = (m : Int) := by rw [hmi]; exact IntWalk.i64_in _ (by omega)
  have hw2 : IntKind.i64.wrap ((m : Int) + (v : Int)) = (m : Int) + (v : Int) := IntWalk.i64_in _ (by omega)
  rw [hmi]
  have hx0 : (0 : Int) ≤ (x : Int) := by omega
  have hx2 : (x : Int) < (n : Int) := by omega
  have hy0 : (0 : Int) ≤ (y : Int) := by omega
  have hy2 : (y : Int) < (n : Int) := by omega
  obtain ⟨p1, hp1⟩ : ∃ p, p = fb x := ⟨_, rfl⟩
  obtain ⟨p2, hp2⟩ : ∃ p, p = fo x := ⟨_, rfl⟩
  obtain ⟨p3, hp3⟩ : ∃ p, p = gb x := ⟨_, rfl⟩
  obtain ⟨p4, hp4⟩ : ∃ p, p = go x := ⟨_, rfl⟩
  rw [← hp1, ← hp2] at hr1 he1
  rw [← hp3, ← hp4] at hr2 he2
  clear h1 h2 hp1 hp2 hp3 hp4 hE hF hm hmi
  go_enter Try.func60, Try.ntmps60
  go_wp2
  go_quiet (fail)
  clear hw1 hw2 hr1 he1 hr2 he2 hcn hca hcb
  go_wp2
  go_ret
  exact ⟨rfl, below_drewN (Below.refl _ _) _⟩

theorem grid_sq {w : World} {A : Option Addr} {c : Nat} {R : Spine} {a : List (List Int)} (hr : RdM w A c R a) {n : Nat} (hn : a.length = n) (hs : sqB a = true) :
    ∃ b o fb fo, A = some ⟨b, o, none⟩ ∧ Grid w n b o fb fo (fun x => (R x).2) (fun x y => nth (row a x) y) := by
  have h := sqB_ent hs hn
  exact grid_of hr hn (by omega) h.2.1

set_option maxHeartbeats 4000000 in
theorem superpose_c (w : World) (A B : Option Addr) (n c d : Nat) (R S : Spine) (a b : List (List Int)) (hr : RdM w A c R a) (hs : RdM w B d S b) (hla : a.length = n) (hlb : b.length = n) (ha : sqB a = true) (hb : sqB b = true) :
    Calls Try.prog 48 #[.slice A n c, .slice B n d] w (PostM w (sqTo (ovF n a b) n n)) := by
  have hmf : ∀ (fn : Fn) (first cap : Array Value) (w : World), (Instr.makeFunc fn first cap).run Try.prog w = .ok (.func fn first cap) w := fun _ _ _ _ => rfl
  have hfa := sqB_ent ha hla
  have hfb := sqB_ent hb hlb
  obtain ⟨b1, o1, f1, f2, rfl, hG1⟩ := grid_sq hr hla ha
  obtain ⟨b2, o2, f3, f4, rfl, hG2⟩ := grid_sq hs hlb hb
  have hB0 : Below w.heap.size w (((w.alloc (.cells #[.slice (some ⟨b1, o1, none⟩) n c] 24)).alloc (.cells #[.slice (some ⟨b2, o2, none⟩) n d] 24)).alloc (.cells #[.int .i64 (n : Int)] 2)) :=
    (((Below.refl _ _).alloc (Nat.le_refl _) _).alloc (by simp) _).alloc (by simp; omega) _
  have hx1 : (((w.alloc (.cells #[.slice (some ⟨b1, o1, none⟩) n c] 24)).alloc (.cells #[.slice (some ⟨b2, o2, none⟩) n d] 24)).alloc (.cells #[.int .i64 (n : Int)] 2)).cell? ⟨w.heap.size, 0, none⟩ = some (.slice (some ⟨b1, o1, none⟩) n c) := by
    rw [World.cell?_alloc_past _ _ _ (by simp; omega), World.cell?_alloc_past _ _ _ (by simp), World.cell?_alloc_at _ _ _ _ rfl]; rfl
  have hx2 : (((w.alloc (.cells #[.slice (some ⟨b1, o1, none⟩) n c] 24)).alloc (.cells #[.slice (some ⟨b2, o2, none⟩) n d] 24)).alloc (.cells #[.int .i64 (n : Int)] 2)).cell? ⟨w.heap.size + 1, 0, none⟩ = some (.slice (some ⟨b2, o2, none⟩) n d) := by
    rw [World.cell?_alloc_past _ _ _ (by simp), World.cell?_alloc_at _ _ _ _ (by simp)]; rfl
  have hx3 : (((w.alloc (.cells #[.slice (some ⟨b1, o1, none⟩) n c] 24)).alloc (.cells #[.slice (some ⟨b2, o2, none⟩) n d] 24)).alloc (.cells #[.int .i64 (n : Int)] 2)).cell? ⟨w.heap.size + 1 + 1, 0, none⟩ = some (.int .i64 (n : Int)) := by
    rw [World.cell?_alloc_at _ _ _ _ (by simp)]; rfl
  have HX1 := Lib.hid hx1
  have HX2 := Lib.hid hx2
  have HX3 := Lib.hid hx3
  have HG1 := Lib.hid (hG1.below hB0 (Nat.le_refl _))
  have HG2 := Lib.hid (hG2.below hB0 (Nat.le_refl _))
  have HFa := Lib.hid hfa
  have HFb := Lib.hid hfb
  have eg := Lib.hid (enters_of Try.func60 (by kernel_rfl) rfl)
  have hn10 : n ≤ 10 := by omega
  clear hx1 hx2 hx3 hr hs ha hb hG1 hG2 hfa hfb hla hlb
  go_enter Try.func48, Try.ntmps48
  go_wp2_with (go_at_call 18; refine (sizeS_c _ _ _ _).mono ?_; rintro e w' ⟨rfl, rfl⟩)
  refine (filledSquare_c _ (n : Int) n 60 #[.pointer (some ⟨w.heap.size + 1 + 1, 0, none⟩), .pointer (some ⟨w.heap.size, 0, none⟩), .pointer (some ⟨w.heap.size + 1, 0, none⟩)] (ovF n a b) eg.out (by omega) (by omega) (by
         intro W x y hx hy hBW
         obtain ⟨u, hu, e1⟩ := HFa.out.2.2 x y hx hy
         obtain ⟨v, hv, e2⟩ := HFb.out.2.2 x y hx hy
         exact sup1_c W (w.heap.size + 1 + 1) w.heap.size (w.heap.size + 1) n b1 o1 c b2 o2 d f1 f2 _ f3 f4 _ _ _ (HG1.out.below hBW (Nat.le_refl _)) (HG2.out.below hBW (Nat.le_refl _))
           ((hBW.cell (p := ⟨w.heap.size + 1 + 1, 0, none⟩) (by simp)).trans HX3.out) ((hBW.cell (p := ⟨w.heap.size, 0, none⟩) (by simp; omega)).trans HX1.out) ((hBW.cell (p := ⟨w.heap.size + 1, 0, none⟩) (by simp)).trans HX2.out) x y u v hx hy hn10 e1 e2 hu hv)).mono ?_
  rintro e w2 ⟨⟨A2, n2, c2, R2, rfl, hn2, ho2⟩, hb2⟩
  have HL := Lib.hid hn2
  have HO := Lib.hid (ho2.lower (lo' := w.heap.size) (by simp; omega))
  have hB2 : Below w.heap.size w w2 := hB0.trans (hb2.mono (by simp; omega))
  clear hn2 ho2 hb2
  go_wp2
  go_ret
  exact ⟨⟨A2, n2, c2, R2, rfl, HL.out, HO.out⟩, hB2⟩

set_option maxRecDepth 100000 in
set_option maxHeartbeats 4000000 in
theorem l07Over_c (w : World) (A B : Option Addr) (n c d : Nat) (R S : Spine) (a b : List (List Int)) (hr : RdM w A c R a) (hs : RdM w B d S b) (hla : a.length = n) (hlb : b.length = n) (ha : sqB a = true) (hb : sqB b = true) :
    Calls Try.prog 45 #[.slice A n c, .slice B n d] w (PostM w (sqTo (ovF n a b) n n)) := by
  have hfa := sqB_ent ha hla
  have hfb := sqB_ent hb hlb
  obtain ⟨b1, o1, f1, f2, rfl, hG1⟩ := grid_sq hr hla ha
  obtain ⟨b2, o2, f3, f4, rfl, hG2⟩ := grid_sq hs hlb hb
  have hn10 : n ≤ 10 := by omega
  have hn1 : 1 ≤ n := by omega
  have HG1 := Lib.hid hG1
  have HG2 := Lib.hid hG2
  have HFa := Lib.hid hfa
  have HFb := Lib.hid hfb
  have HOv := Lib.hid (show ∀ x y, ovF n a b x y = (n : Int) * nth (row a x) y + nth (row b x) y from fun _ _ => rfl)
  generalize ovF n a b = f at *
  clear hr hs ha hb hG1 hG2 hfa hfb hla hlb
  go_enter Try.func45, Try.ntmps45
  go_wp2_with fail
  refine (l06Zero_c w n n (by omega) (by omega)).mono ?_
  rintro e w3 ⟨⟨A3, n3, c3, R3, rfl, hn3, ho3⟩, hb3⟩
  obtain rfl : n = n3 := by rw [length_sqTo] at hn3; exact hn3
  obtain ⟨G3, eA3, _, _, _, _⟩ := ho3.at_ (k := 0) (by rw [length_sqTo]; omega)
  subst eA3
  have HO3 := Lib.hid (show OwnM w3 w.heap.size (some ⟨G3, 0, none⟩) c3 R3 (sqTo (tqF f 0 0) n n) from by rw [← tqF_zero]; exact ho3)
  have HB3 := Lib.hid hb3
  clear hn3 ho3 hb3
  go_wp2
  go_loopw [7, 8] (fun i _ wr => ∃ x : Nat, x ≤ n ∧ i = .int .i64 x ∧ Hid (OwnM wr w.heap.size (some ⟨G3, 0, none⟩) c3 R3 (sqTo (tqF f x 0) n n)) ∧ Hid (Below w.heap.size w wr)) (fun i _ _ => n - (intOf i).toNat)
  case atStart => exact ⟨0, Nat.zero_le _, rfl, HO3, HB3⟩
  case round =>
    obtain ⟨x, hx, rfl, HOx, HBx⟩ := hrel
    by_cases hlx : x < n
    · go_wp2
      go_loopw [8] (fun i wr => ∃ y : Nat, y ≤ n ∧ i = .int .i64 y ∧ Hid (OwnM wr w.heap.size (some ⟨G3, 0, none⟩) c3 R3 (sqTo (tqF f x y) n n)) ∧ Hid (Below w.heap.size w wr)) (fun i _ => n - (intOf i).toNat)
      case atStart => exact ⟨0, Nat.zero_le _, rfl, HOx, HBx⟩
      case round =>
        obtain ⟨y, hy, rfl, HOy, HBy⟩ := hrel
        by_cases hly : y < n
        · obtain ⟨g, g', eg, er, hlo, hgs, hg1, hg2⟩ := HOy.out.sq_row (i := x) hlx (by omega)
          injection eg with eg
          injection eg with eg
          subst eg
          obtain ⟨hq1, hf1⟩ := hg2 y hly
          have hst := HOy.out.sq_store hlx hly er (f x y)
          rw [tqF_set] at hst
          have HO5 := Lib.hid hst
          have HB5 := Lib.hid (HBy.out.setCell (p := ⟨g', y, none⟩) hlo (.int .i64 (f x y)))
          obtain ⟨u, hu, e1⟩ := HFa.out.2.2 x y hlx hly
          obtain ⟨v, hv, e2⟩ := HFb.out.2.2 x y hlx hly
          have hr1 := (HBy.out.cell (p := ⟨b1, o1 + x, none⟩) HG1.out.lt).trans (HG1.out.row x hlx)
          have hr2 := (HBy.out.cell (p := ⟨b2, o2 + x, none⟩) HG2.out.lt).trans (HG2.out.row x hlx)
          have he1 := (HBy.out.cell (p := ⟨f1 x, f2 x + y, none⟩) (HG1.out.rlt x hlx)).trans (HG1.out.ent x y hlx hly)
          have he2 := (HBy.out.cell (p := ⟨f3 x, f4 x + y, none⟩) (HG2.out.rlt x hlx)).trans (HG2.out.ent x y hlx hly)
          rw [e1] at he1
          rw [e2] at he2
          have hfe := HOv.out x y
          rw [e1, e2] at hfe
          obtain ⟨m, hm⟩ : ∃ m, m = n * u := ⟨_, rfl⟩
          have hml : m ≤ 10 * 10 := by rw [hm]; exact Nat.mul_le_mul hn10 (by omega)
          have hmi : (n : Int) * (u : Int) = (m : Int) := by rw [hm, Int.natCast_mul]
          have hw1 : IntKind.i64.wrap ((n : Int) * (u : Int)) = (m : Int) := by rw [hmi]; exact IntWalk.i64_in _ (by omega)
          have hw2 : IntKind.i64.wrap ((m : Int) + (v : Int)) = (m : Int) + (v : Int) := IntWalk.i64_in _ (by omega)
          rw [hmi] at hfe
          rw [hfe] at HO5 HB5
          have hx0 : (0 : Int) ≤ (x : Int) := by omega
          have hx2 : (x : Int) < (n : Int) := by omega
          have hy0 : (0 : Int) ≤ (y : Int) := by omega
          have hy2 : (y : Int) < (n : Int) := by omega
          obtain ⟨p1, hp1⟩ : ∃ p, p = f1 x := ⟨_, rfl⟩
          obtain ⟨p2, hp2⟩ : ∃ p, p = f2 x := ⟨_, rfl⟩
          obtain ⟨p3, hp3⟩ : ∃ p, p = f3 x := ⟨_, rfl⟩
          obtain ⟨p4, hp4⟩ : ∃ p, p = f4 x := ⟨_, rfl⟩
          rw [← hp1, ← hp2] at hr1 he1
          rw [← hp3, ← hp4] at hr2 he2
          generalize (R x).2 = q1 at *
          generalize (S x).2 = q2 at *
          clear hst hg2 hfe hmi hm e1 e2 hp1 hp2 hp3 hp4 er
          go_wp2
          go_region
          all_goals (clear hw1 hw2 hr1 hr2 he1 he2)
          all_goals go_wp2
          all_goals go_roundw
          case rel => exact ⟨y + 1, by omega, by go_num, Lib.hid HO5.out.drew, Lib.hid HB5.out.drew⟩
          case measure => simp [intOf] <;> omega
        · obtain rfl : y = n := by omega
          have HOn := Lib.hid (show OwnM wr w.heap.size (some ⟨G3, 0, none⟩) c3 R3 (sqTo (tqF f (x + 1) 0) y y) from by rw [← tqF_row]; exact HOy.out)
          go_wp2
          go_roundw
          case rel => exact ⟨x + 1, by omega, by go_num, HOn, HBy⟩
          case measure => simp [intOf] <;> omega
    · obtain rfl : x = n := by omega
      have HOf := Lib.hid (show OwnM wr w.heap.size (some ⟨G3, 0, none⟩) c3 R3 (sqTo f x x) from by rw [← tqF_all]; exact HOx.out)
      have HLn := Lib.hid (length_sqTo f x x)
      go_wp2
      go_ret
      exact ⟨⟨_, x, c3, R3, rfl, HLn.out, HOf.out⟩, HBx.out⟩
end Go.Proofs.Ythgbfgdnljgicaa
