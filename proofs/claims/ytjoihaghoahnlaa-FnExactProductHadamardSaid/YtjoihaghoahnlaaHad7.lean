/-
  ProductHadamard and SylvesterMatrix: contracts of the program's and of the reference's functions. Conditions: those of each theorem.
-/
import Derived.Test.YtjoihaghoahnlaaHad6
import Derived.StillTailTactics
namespace Go.Proofs.Ytjoihaghoahnlaa
open Go.RowKit
set_option linter.unusedVariables false
set_option linter.unusedSimpArgs false

set_option maxHeartbeats 1000000 in
set_option maxRecDepth 100000 in
/-- The literal of productHadamard. -/
theorem prodAt_c (W : World) (B1 B2 B3 : Nat) (A B : Option Addr) (p m c d : Nat) (R S : Spine) (f g : Nat → Nat → Int) (x y : Nat) (hx : x < p * m) (hy : y < p * m) (hm : 1 ≤ m) (hp : p ≤ 1000) (hm2 : m ≤ 1000) (hpm : p * m ≤ 1000)
    (hf : PmF f p) (hg : PmF g m) (hc1 : W.cell? ⟨B1, 0, none⟩ = some (.slice A p c)) (hc2 : W.cell? ⟨B2, 0, none⟩ = some (.int .i64 (m : Int))) (hc3 : W.cell? ⟨B3, 0, none⟩ = some (.slice B m d))
    (ha : RdM W A c R (sqTo f p p)) (hb : RdM W B d S (sqTo g m m)) :
    Calls Try.prog 90 #[.int .i64 (x : Int), .int .i64 (y : Int), .pointer (some ⟨B1, 0, none⟩), .pointer (some ⟨B2, 0, none⟩), .pointer (some ⟨B3, 0, none⟩)] W (PostV W (.int .i64 (prodF f g m x y))) := by
  have d1 : x / m < p := (Nat.div_lt_iff_lt_mul hm).2 hx
  have d2 : y / m < p := (Nat.div_lt_iff_lt_mul hm).2 hy
  have d3 : x % m < m := Nat.mod_lt _ hm
  have d4 : y % m < m := Nat.mod_lt _ hm
  obtain ⟨b1, o1, b2, o2, C2, rfl, _, h1, _, h2⟩ := ha.sq_at (i := x / m) (j := y / m) d1 d2
  obtain ⟨b3, o3, b4, o4, C4, rfl, _, h3, _, h4⟩ := hb.sq_at (i := x % m) (j := y % m) d3 d4
  have hpm' := pm_prod (hf _ _ d1 d2) (hg _ _ d3 d4)
  rw [show prodF f g m x y = f (x / m) (y / m) * g (x % m) (y % m) from rfl]
  have tx : (x : Int).tdiv (m : Int) = ((x / m : Nat) : Int) := by rw [Int.tdiv_eq_ediv_of_nonneg (by omega)]; simp
  have ty : (y : Int).tdiv (m : Int) = ((y / m : Nat) : Int) := by rw [Int.tdiv_eq_ediv_of_nonneg (by omega)]; simp
  have rx : (x : Int).tmod (m : Int) = ((x % m : Nat) : Int) := by rw [Int.tmod_eq_emod_of_nonneg (by omega)]; simp
  have ry : (y : Int).tmod (m : Int) = ((y % m : Nat) : Int) := by rw [Int.tmod_eq_emod_of_nonneg (by omega)]; simp
  generalize x / m = X1 at *
  generalize y / m = Y1 at *
  generalize x % m = X2 at *
  generalize y % m = Y2 at *
  have hw : IntKind.i64.wrap (f X1 Y1 * g X2 Y2) = f X1 Y1 * g X2 Y2 := IntWalk.i64_in _ (by omega)
  obtain ⟨u, hu⟩ : ∃ u, u = f X1 Y1 := ⟨_, rfl⟩
  obtain ⟨v, hv⟩ : ∃ v, v = g X2 Y2 := ⟨_, rfl⟩
  rw [← hu] at h2 hw hpm' ⊢
  rw [← hv] at h4 hw hpm' ⊢
  have q1 : IntKind.i64.wrap (X1 : Int) = X1 := IntWalk.i64_in _ (by omega)
  have q2 : IntKind.i64.wrap (Y1 : Int) = Y1 := IntWalk.i64_in _ (by omega)
  have q3 : IntKind.i64.wrap (X2 : Int) = X2 := IntWalk.i64_in _ (by omega)
  have q4 : IntKind.i64.wrap (Y2 : Int) = Y2 := IntWalk.i64_in _ (by omega)
  have m1 : ((m : Int) == 0) = false := by simp; omega
  have m2 : ¬ (m : Int) = 0 := by omega
  have m3 : ¬ m = 0 := by omega
  clear ha hb hf hg hpm' hu hv hpm hx hy
  go_enter Try.func90, Try.ntmps90
  go_wp2
  go_quiet (fail)
  clear hw q1 q2 q3 q4 tx ty rx ry
  go_wp2
  go_ret
  exact ⟨rfl, below_drewN (Below.refl _ _) _⟩

theorem sizeS_still (w : World) (A : Option Addr) (n c : Nat) : Calls Try.prog 64 #[.slice A n c] w fun e w' => e = .returned (.int .i64 (n : Int)) ∧ w' = w :=
  (sizeS_c w A n c).mono fun _ _ ⟨h1, h2⟩ => ⟨h1, h2.symm⟩

set_option maxHeartbeats 2000000 in
set_option maxRecDepth 100000 in
theorem implProduct_c (w : World) (A B : Option Addr) (p m c d : Nat) (R S : Spine) (f g : Nat → Nat → Int) (ha : RdM w A c R (sqTo f p p)) (hb : RdM w B d S (sqTo g m m)) (hf : PmF f p) (hg : PmF g m)
    (hp : 1 ≤ p) (hm : 1 ≤ m) (hpm : p * m ≤ 1000) :
    Calls Try.prog 56 #[.slice A p c, .slice B m d] w (PostM w (sqTo (prodF f g m) (p * m) (p * m))) := by
  have hp2 : p ≤ 1000 := Nat.le_trans (Nat.le_mul_of_pos_right p hm) hpm
  have hm2 : m ≤ 1000 := Nat.le_trans (Nat.le_mul_of_pos_left m hp) hpm
  have hmf := makeFunc_run
  -- the boxes: both slices, then the number
  have hB0 : Below w.heap.size w (((w.alloc (.cells #[.slice A p c] 27)).alloc (.cells #[.slice B m d] 27)).alloc (.cells #[.int .i64 (m : Int)] 2)) :=
    (((Below.refl _ _).alloc (Nat.le_refl _) _).alloc (by simp) _).alloc (by simp; omega) _
  have HA := Lib.hid (ha.below hB0)
  have HB := Lib.hid (hb.below hB0)
  have HF := Lib.hid hf
  have HG := Lib.hid hg
  have hx1 : (((w.alloc (.cells #[.slice A p c] 27)).alloc (.cells #[.slice B m d] 27)).alloc (.cells #[.int .i64 (m : Int)] 2)).cell? ⟨w.heap.size, 0, none⟩ = some (.slice A p c) := by
    rw [World.cell?_alloc_past _ _ _ (by simp; omega), World.cell?_alloc_past _ _ _ (by simp), World.cell?_alloc_at _ _ _ _ rfl]; rfl
  have hx2 : (((w.alloc (.cells #[.slice A p c] 27)).alloc (.cells #[.slice B m d] 27)).alloc (.cells #[.int .i64 (m : Int)] 2)).cell? ⟨w.heap.size + 1, 0, none⟩ = some (.slice B m d) := by
    rw [World.cell?_alloc_past _ _ _ (by simp), World.cell?_alloc_at _ _ _ _ (by simp)]; rfl
  have hx3 : (((w.alloc (.cells #[.slice A p c] 27)).alloc (.cells #[.slice B m d] 27)).alloc (.cells #[.int .i64 (m : Int)] 2)).cell? ⟨w.heap.size + 1 + 1, 0, none⟩ = some (.int .i64 (m : Int)) := by
    rw [World.cell?_alloc_at _ _ _ _ (by simp)]; rfl
  have HX1 := Lib.hid hx1
  have HX2 := Lib.hid hx2
  have HX3 := Lib.hid hx3
  have HPM := Lib.hid hpm
  have hmul : IntKind.i64.wrap ((p : Int) * (m : Int)) = ((p * m : Nat) : Int) := by rw [← Int.natCast_mul]; exact IntWalk.i64_in _ (by omega)
  have eg := Lib.hid (enters_of Try.func90 (by kernel_rfl) rfl)
  clear hx1 hx2 hx3 ha hb hf hg
  obtain ⟨n, hn⟩ : ∃ n, n = p * m := ⟨_, rfl⟩
  have HN := Lib.hid hn
  rw [← hn] at hmul hpm ⊢
  clear hn
  go_enter Try.func56, Try.ntmps56
  go_wp2_with (go_at_call 64; refine (sizeS_c _ _ _ _).mono ?_; rintro e w' ⟨rfl, rfl⟩)
  refine wp_region_still_tail 5 (by kernel_rfl) (by kernel_rfl) ?_
  simp only [List.take_succ_cons, List.take_zero, List.drop_succ_cons, List.drop_zero]
  change wpStill _ _ (World.drew _) _ _ _
  still_step
  still_call (sizeS_still _ _ _ _)
  still_step
  still_step
  still_step
  refine wpStill_nil ?_
  change wpList _ _ _ _ _ (World.drew _)
  clear hmul
  go_wp2_with fail
  refine (filledSquare_c (World.drew _) (n : Int) n 90 #[.pointer (some ⟨w.heap.size, 0, none⟩), .pointer (some ⟨w.heap.size + 1 + 1, 0, none⟩), .pointer (some ⟨w.heap.size + 1, 0, none⟩)] (prodF f g m) eg.out (by omega) (by omega) (by
         intro W x y hx hy hBW
         have hx' : x < p * m := by rw [← HN.out]; exact hx
         have hy' : y < p * m := by rw [← HN.out]; exact hy
         exact prodAt_c W w.heap.size (w.heap.size + 1 + 1) (w.heap.size + 1) A B p m c d R S f g x y hx' hy' hm hp2 hm2 HPM.out HF.out HG.out
           ((hBW.cell (p := ⟨w.heap.size, 0, none⟩) (by simp; omega)).trans HX1.out) ((hBW.cell (p := ⟨w.heap.size + 1 + 1, 0, none⟩) (by simp)).trans HX3.out) ((hBW.cell (p := ⟨w.heap.size + 1, 0, none⟩) (by simp)).trans HX2.out)
           (HA.out.keep hBW.size fun _ hp => hBW.cell hp) (HB.out.keep hBW.size fun _ hp => hBW.cell hp))).mono ?_
  rintro e w2 ⟨⟨A2, n2, c2, R2, rfl, hn2, ho2⟩, hb2⟩
  have HL := Lib.hid hn2
  have HO := Lib.hid (ho2.lower (lo' := w.heap.size) (by simp; omega))
  have hB2 : Below w.heap.size w w2 := (hB0.drew).trans (hb2.mono (by simp; omega))
  clear hn2 ho2 hb2
  go_wp2
  go_ret
  exact ⟨⟨A2, n2, c2, R2, rfl, HL.out, HO.out⟩, hB2⟩

/-! ### ProductHadamard -/

noncomputable def pairOk (a b : List (List Int)) : Prop := validB a = true ∧ validB b = true
noncomputable def prodM (a b : List (List Int)) : List (List Int) := if validB a = true ∧ validB b = true ∧ a.length * b.length ≤ 32 then sqTo (prodF (entry a) (entry b) b.length) (a.length * b.length) (a.length * b.length) else []
noncomputable def prodC (a b : List (List Int)) : Int := if validB a = true ∧ validB b = true then (if a.length * b.length ≤ 32 then 0 else 5) else 1
theorem ProductHadamard_small (a b : List (List Int)) : (prodM a b).length ≤ 1048576 ∧ tot (prodM a b) ≤ 1048576 := by
  unfold prodM
  split
  · next hv =>
    have := hv.2.2
    rw [length_sqTo, tot_sqTo]
    exact ⟨by omega, Nat.le_trans (Nat.mul_le_mul this this) (by omega)⟩
  · simp [tot]

set_option maxHeartbeats 1000000 in
theorem specProductHadamard_c (w : World) (A : Option Addr) (n c : Nat) (R : Spine) (h : List (List Int)) (hr : RdM w A c R h) (hn : h.length = n) (hw : WfM h) (hz : (n : Int) + (tot h : Nat) ≤ 1048576)
    (B : Option Addr) (m d : Nat) (S : Spine) (k : List (List Int)) (hs : RdM w B d S k) (hm : k.length = m) (hw2 : WfM k) (hz2 : (m : Int) + (tot k : Nat) ≤ 1048576) :
    Calls Try.prog 46 #[.slice A n c, .slice B m d] w (PostMC w (prodM h k) (prodC h k)) := by
  have hcall := l15Ok_c w A n c R h hr hn 
  have hcall2 := fun (W : World) (hb : Below w.heap.size w W) => l15Ok_c W B m d S k (hs.below hb) hm 
  rcases hv : validB h with _ | _
  · rw [hv] at hcall
    rw [show prodM h k = [] by simp [prodM, hv], show prodC h k = 1 by simp [prodC, hv]]
    have HC := Lib.hid hcall
    clear hcall hcall2 hv hr hn hs hm
    go_enter Try.func46, Try.ntmps46
    go_wp2_with fail
    refine (HC.out).mono ?_
    rintro e w1 ⟨rfl, hb⟩
    go_wp2
    go_ret2
    exact ⟨⟨none, 0, 0, fun _ => (none, 0), rfl, rfl, OwnM.nil_ _ _ _⟩, hb⟩
  · rw [hv] at hcall
    rcases hv2 : validB k with _ | _
    · rw [hv2] at hcall2
      rw [show prodM h k = [] by simp [prodM, hv2], show prodC h k = 1 by simp [prodC, hv2]]
      have HC := Lib.hid hcall
      have HC2 := Lib.hid hcall2
      clear hcall hcall2 hv hv2 hr hn hs hm
      go_enter Try.func46, Try.ntmps46
      go_wp2_with fail
      refine (HC.out).mono ?_
      rintro e w1 ⟨rfl, hb⟩
      go_wp2_with fail
      refine (HC2.out w1 hb).mono ?_
      rintro e w2 ⟨rfl, hb2⟩
      have hB : Below w.heap.size w w2 := hb.trans (hb2.mono hb.size)
      go_wp2
      go_ret2
      exact ⟨⟨none, 0, 0, fun _ => (none, 0), rfl, rfl, OwnM.nil_ _ _ _⟩, hB⟩
    · rw [hv2] at hcall2
      obtain ⟨e1, hpm1, hn1, hn2⟩ := (validB_iff.1 hv).sq hn
      obtain ⟨e2, hpm2, hm1, hm2⟩ := (validB_iff.1 hv2).sq hm
      have hr2 : RdM w A c R (sqTo (entry h) n n) := by rw [← e1]; exact hr
      have hs2 : RdM w B d S (sqTo (entry k) m m) := by rw [← e2]; exact hs
      have hprod : n * m ≤ 32 * 32 := Nat.mul_le_mul hn2 hm2
      have hmul : (n : Int) * (m : Int) = ((n * m : Nat) : Int) := by simp
      have HC := Lib.hid hcall
      have HC2 := Lib.hid hcall2
      have HR := Lib.hid hr2
      have HS := Lib.hid hs2
      have HP1 := Lib.hid hpm1
      have HP2 := Lib.hid hpm2
      by_cases hfit : n * m ≤ 32
      · have HM := Lib.hid (show prodM h k = sqTo (prodF (entry h) (entry k) m) (n * m) (n * m) by unfold prodM; rw [hn, hm, if_pos ⟨hv, hv2, hfit⟩])
        have HCd := Lib.hid (show prodC h k = 0 by unfold prodC; rw [hn, hm, if_pos ⟨hv, hv2⟩, if_pos hfit])
        have hfit0 : (n : Int) * (m : Int) ≤ 32 := by rw [hmul]; omega
        have hfit1 : 0 ≤ (n : Int) * (m : Int) := by rw [hmul]; omega
        have HF := Lib.hid hfit
        clear hcall hcall2 hv hv2 hr hn hs hm e1 e2 hpm1 hpm2 hr2 hs2 hprod hmul hfit
        rw [HM.out, HCd.out]
        go_enter Try.func46, Try.ntmps46
        go_wp2_with fail
        refine (HC.out).mono ?_
        rintro e w1 ⟨rfl, hb⟩
        go_wp2_with fail
        refine (HC2.out w1 hb).mono ?_
        rintro e w2 ⟨rfl, hb2⟩
        have hB : Below w.heap.size w w2 := hb.trans (hb2.mono hb.size)
        have hz1 := hB.size
        go_wp2_with fail
        refine (l15Product_c w2 A B n m c d R S (entry h) (entry k) (HR.out.below hB) (HS.out.below hB) HP1.out HP2.out hn1 hm1 (by have := HF.out; omega)).mono ?_
        rintro e w3 ⟨⟨A2, n2, c2, R2, rfl, hn2', ho2⟩, hb3⟩
        have HL := Lib.hid hn2'
        have HO := Lib.hid (ho2.lower hz1)
        have hB3 : Below w.heap.size w w3 := hB.trans (hb3.mono hz1)
        clear hn2' ho2
        go_wp2
        go_ret2
        exact ⟨⟨A2, n2, c2, R2, rfl, HL.out, HO.out⟩, hB3⟩
      · have HM := Lib.hid (show prodM h k = [] by unfold prodM; rw [hn, hm, if_neg (fun h => hfit h.2.2)])
        have HCd := Lib.hid (show prodC h k = 5 by unfold prodC; rw [hn, hm, if_pos ⟨hv, hv2⟩, if_neg hfit])
        have hfit0 : 32 < (n : Int) * (m : Int) := by rw [hmul]; omega
        have hfit1 : (n : Int) * (m : Int) ≤ 1024 := by rw [hmul]; omega
        clear hcall hcall2 hv hv2 hr hn hs hm e1 e2 hpm1 hpm2 hr2 hs2 hprod hmul hfit
        rw [HM.out, HCd.out]
        go_enter Try.func46, Try.ntmps46
        go_wp2_with fail
        refine (HC.out).mono ?_
        rintro e w1 ⟨rfl, hb⟩
        go_wp2_with fail
        refine (HC2.out w1 hb).mono ?_
        rintro e w2 ⟨rfl, hb2⟩
        have hB : Below w.heap.size w w2 := hb.trans (hb2.mono hb.size)
        go_wp2_with fail
        go_wp2
        go_ret2
        exact ⟨⟨none, 0, 0, fun _ => (none, 0), rfl, rfl, OwnM.nil_ _ _ _⟩, hB⟩

set_option maxHeartbeats 1000000 in
theorem implProductHadamard_c (w : World) (A : Option Addr) (n c : Nat) (R : Spine) (h : List (List Int)) (hr : RdM w A c R h) (hn : h.length = n) (hw : WfM h) (hz : (n : Int) + (tot h : Nat) ≤ 1048576)
    (B : Option Addr) (m d : Nat) (S : Spine) (k : List (List Int)) (hs : RdM w B d S k) (hm : k.length = m) (hw2 : WfM k) (hz2 : (m : Int) + (tot k : Nat) ≤ 1048576) :
    Calls Try.prog 47 #[.slice A n c, .slice B m d] w (PostMC w (prodM h k) (prodC h k)) := by
  have hcall := implValid_c w A n c R h hr hn (by omega)
  have hcall2 := fun (W : World) (hb : Below w.heap.size w W) => implValid_c W B m d S k (hs.below hb) hm (by omega)
  rcases hv : validB h with _ | _
  · rw [hv] at hcall
    rw [show prodM h k = [] by simp [prodM, hv], show prodC h k = 1 by simp [prodC, hv]]
    have HC := Lib.hid hcall
    clear hcall hcall2 hv hr hn hs hm
    go_enter Try.func47, Try.ntmps47
    go_wp2_with fail
    refine (HC.out).mono ?_
    rintro e w1 ⟨rfl, hb⟩
    go_wp2
    go_ret2
    exact ⟨⟨none, 0, 0, fun _ => (none, 0), rfl, rfl, OwnM.nil_ _ _ _⟩, hb⟩
  · rw [hv] at hcall
    rcases hv2 : validB k with _ | _
    · rw [hv2] at hcall2
      rw [show prodM h k = [] by simp [prodM, hv2], show prodC h k = 1 by simp [prodC, hv2]]
      have HC := Lib.hid hcall
      have HC2 := Lib.hid hcall2
      clear hcall hcall2 hv hv2 hr hn hs hm
      go_enter Try.func47, Try.ntmps47
      go_wp2_with fail
      refine (HC.out).mono ?_
      rintro e w1 ⟨rfl, hb⟩
      go_wp2_with fail
      refine (HC2.out w1 hb).mono ?_
      rintro e w2 ⟨rfl, hb2⟩
      have hB : Below w.heap.size w w2 := hb.trans (hb2.mono hb.size)
      go_wp2
      go_ret2
      exact ⟨⟨none, 0, 0, fun _ => (none, 0), rfl, rfl, OwnM.nil_ _ _ _⟩, hB⟩
    · rw [hv2] at hcall2
      obtain ⟨e1, hpm1, hn1, hn2⟩ := (validB_iff.1 hv).sq hn
      obtain ⟨e2, hpm2, hm1, hm2⟩ := (validB_iff.1 hv2).sq hm
      have hr2 : RdM w A c R (sqTo (entry h) n n) := by rw [← e1]; exact hr
      have hs2 : RdM w B d S (sqTo (entry k) m m) := by rw [← e2]; exact hs
      have hprod : n * m ≤ 32 * 32 := Nat.mul_le_mul hn2 hm2
      have hmul : (n : Int) * (m : Int) = ((n * m : Nat) : Int) := by simp
      have HC := Lib.hid hcall
      have HC2 := Lib.hid hcall2
      have HR := Lib.hid hr2
      have HS := Lib.hid hs2
      have HP1 := Lib.hid hpm1
      have HP2 := Lib.hid hpm2
      by_cases hfit : n * m ≤ 32
      · have HM := Lib.hid (show prodM h k = sqTo (prodF (entry h) (entry k) m) (n * m) (n * m) by unfold prodM; rw [hn, hm, if_pos ⟨hv, hv2, hfit⟩])
        have HCd := Lib.hid (show prodC h k = 0 by unfold prodC; rw [hn, hm, if_pos ⟨hv, hv2⟩, if_pos hfit])
        have hfit0 : (n : Int) * (m : Int) ≤ 32 := by rw [hmul]; omega
        have hfit1 : 0 ≤ (n : Int) * (m : Int) := by rw [hmul]; omega
        have HF := Lib.hid hfit
        clear hcall hcall2 hv hv2 hr hn hs hm e1 e2 hpm1 hpm2 hr2 hs2 hprod hmul hfit
        rw [HM.out, HCd.out]
        go_enter Try.func47, Try.ntmps47
        go_wp2_with fail
        refine (HC.out).mono ?_
        rintro e w1 ⟨rfl, hb⟩
        go_wp2_with fail
        refine (HC2.out w1 hb).mono ?_
        rintro e w2 ⟨rfl, hb2⟩
        have hB : Below w.heap.size w w2 := hb.trans (hb2.mono hb.size)
        have hz1 := hB.size
        go_wp2_with (first | (go_at_call 64; refine (sizeS_c _ _ _ _).mono ?_; rintro e w' ⟨rfl, rfl⟩) | fail)
        refine (implProduct_c w2 A B n m c d R S (entry h) (entry k) (HR.out.below hB) (HS.out.below hB) HP1.out HP2.out hn1 hm1 (by have := HF.out; omega)).mono ?_
        rintro e w3 ⟨⟨A2, n2, c2, R2, rfl, hn2', ho2⟩, hb3⟩
        have HL := Lib.hid hn2'
        have HO := Lib.hid (ho2.lower hz1)
        have hB3 : Below w.heap.size w w3 := hB.trans (hb3.mono hz1)
        clear hn2' ho2
        go_wp2
        go_ret2
        exact ⟨⟨A2, n2, c2, R2, rfl, HL.out, HO.out⟩, hB3⟩
      · have HM := Lib.hid (show prodM h k = [] by unfold prodM; rw [hn, hm, if_neg (fun h => hfit h.2.2)])
        have HCd := Lib.hid (show prodC h k = 5 by unfold prodC; rw [hn, hm, if_pos ⟨hv, hv2⟩, if_neg hfit])
        have hfit0 : 32 < (n : Int) * (m : Int) := by rw [hmul]; omega
        have hfit1 : (n : Int) * (m : Int) ≤ 1024 := by rw [hmul]; omega
        clear hcall hcall2 hv hv2 hr hn hs hm e1 e2 hpm1 hpm2 hr2 hs2 hprod hmul hfit
        rw [HM.out, HCd.out]
        go_enter Try.func47, Try.ntmps47
        go_wp2_with fail
        refine (HC.out).mono ?_
        rintro e w1 ⟨rfl, hb⟩
        go_wp2_with fail
        refine (HC2.out w1 hb).mono ?_
        rintro e w2 ⟨rfl, hb2⟩
        have hB : Below w.heap.size w w2 := hb.trans (hb2.mono hb.size)
        go_wp2_with (first | (go_at_call 64; refine (sizeS_c _ _ _ _).mono ?_; rintro e w' ⟨rfl, rfl⟩) | fail)
        go_wp2
        go_ret2
        exact ⟨⟨none, 0, 0, fun _ => (none, 0), rfl, rfl, OwnM.nil_ _ _ _⟩, hB⟩
end Go.Proofs.Ytjoihaghoahnlaa
