/-
  PlaneOfMols of the reference. Conditions: those of each theorem.
-/
import Derived.Test.YthgbfgdnljgicaaPomE
import Derived.Test.YthgbfgdnljgicaaIns2
namespace Go.Proofs.Ythgbfgdnljgicaa
open Go.RowKit
set_option linter.unusedVariables false
set_option linter.unusedSimpArgs false

theorem stopQ {p : Prop} (h : Hid p) : p := h.out
/-- Two slices do not lie in one block. -/
def ApartA (A B : Option Addr) : Prop := ∀ g, blk A = some g → blk B ≠ some g
theorem ApartA.symm {A B : Option Addr} (h : ApartA A B) : ApartA B A := fun g e1 e2 => h g e2 e1
theorem OwnI.blk_lt {w : World} {lo : Nat} {A : Option Addr} {c : Nat} {xs : List Int} (h : OwnI w lo A c xs) {g : Nat} (e : blk A = some g) : lo ≤ g ∧ g < w.heap.size := by
  rcases h.form with ⟨e1, _⟩ | ⟨g1, e1, h1, h2, _⟩
  · rw [e1] at e; simp [blk] at e
  · rw [e1, blk_some] at e; injection e with e; omega
theorem ApartA.grow {w : World} {lo : Nat} {A A' B : Option Addr} {c : Nat} {ys : List Int} (h : ApartA A B) (hB : OwnI w lo B c ys) (ha : blk A' = blk A ∨ blk A' = some w.heap.size) : ApartA A' B := fun g e1 e2 => by
  rcases ha with ha | ha
  · exact h g (ha ▸ e1) e2
  · rw [ha] at e1
    injection e1 with e1
    have := (hB.blk_lt e2).2
    omega
theorem OwnI.grown_apart {w w' : World} {lo : Nat} {A B : Option Addr} {c : Nat} {ys : List Int} (h : OwnI w lo B c ys) (hg : w.grownBy w' (blk A)) (hap : ApartA A B) : OwnI w' lo B c ys :=
  h.grown hg fun g e e2 => hap g e2 (by rw [e]; rfl)
def lit2R (A B : Option Addr) (c d : Nat) : Spine := fun k => if k = 0 then (A, c) else (B, d)
theorem OwnM.lit2 {w : World} {lo : Nat} {A B : Option Addr} {c d n m : Nat} {xs ys : List Int} (hr : OwnI w lo A c xs) (hs : OwnI w lo B d ys) (hn : xs.length = n) (hm : ys.length = m) (hap : ApartA A B) (h : lo ≤ w.heap.size) :
    OwnM (w.alloc (.cells #[.slice A n c, .slice B m d] 35)) lo (some ⟨w.heap.size, 0, none⟩) 2 (lit2R A B c d) [xs, ys] := by
  subst hn hm
  exact ⟨World.ownsRow_lit (e := 35) (size := 1) w #[.slice A xs.length c, .slice B ys.length d] 2 h (by unfold maxLen; omega) rfl, fun k hk => by
    rcases (show k = 0 ∨ k = 1 by simp at hk; omega) with rfl | rfl
    · exact hr.alloc _
    · exact hs.alloc _, fun i j hij hj g e1 e2 => by
    obtain ⟨rfl, rfl⟩ : i = 0 ∧ j = 1 := by simp at hj; omega
    exact hap g (by rw [show A = some ⟨g, 0, none⟩ from e1]; rfl) (by rw [show B = some ⟨g, 0, none⟩ from e2]; rfl)⟩
theorem lit0_two (w : World) : OwnI ((w.alloc (.cells #[] 2)).alloc (.cells #[] 2)) w.heap.size (some ⟨w.heap.size + 1, 0, none⟩) 0 [] := by
  have h := OwnI.lit0 (w.alloc (.cells #[] 2)) (lo := w.heap.size) (by simp)
  rw [show (w.alloc (.cells #[] 2)).heap.size = w.heap.size + 1 by simp] at h
  exact h
theorem lnT_now (f : Nat → Nat → Int) (n v : Nat) : lnC f n v (n * n) = lnT f n v n := lnC_all f n v n

set_option maxRecDepth 100000 in
set_option maxHeartbeats 32000000 in
theorem specPlaneOfMols_c (w : World) (A : Option Addr) (q c : Nat) (S : Spine3) (x : List (List (List Int))) (hr : RdL w A c S x) (hq : x.length = q) (hw : WfT x) (hz : (q : Int) + (wgt x : Nat) ≤ 1048576) :
    Calls Try.prog 5 #[.slice A q c] w (PostDC w (pomP x) (pomX x) (pomC x)) := by
  have hzD := zeroD
  obtain ⟨wa, hwa⟩ : ∃ wa, wa = w.alloc (.cells #[.int .i64 0, .slice none 0 0] 26) := ⟨_, rfl⟩
  have hZa : RBox wa w.heap.size := by rw [hwa]; exact RBox.made w 26
  have hBa : Below w.heap.size w wa := by rw [hwa]; exact below_boxed w (.cells #[.int .i64 0, .slice none 0 0] 26)
  have hsa : w.heap.size + 1 ≤ wa.heap.size := by rw [hwa]; simp
  have HZa := Lib.hid hZa
  have HBa := Lib.hid hBa
  have hq1 : q ≤ 1048576 := by omega
  have hpl := pln_small (x := x) (by omega)
  have hV := l07Ok_c wa A q c S x (hr.below hBa) hq hq1 (fun i hi => (hpl i (by omega)).1)
  have HWa := Lib.hid hwa
  rcases hs : molB x with _ | _
  · rw [show pomP x = 0 from if_neg (by rw [hs]; simp), show pomX x = [] from if_neg (by rw [hs]; simp), show pomC x = 1 from if_neg (by rw [hs]; simp)]
    rw [hs] at hV
    have HV := Lib.hid hV
    clear hV hs hwa hZa hBa hr hq hw hz hpl
    go_enter Try.func5, Try.ntmps5
    go_wp2_with fail
    rw [← HWa.out]
    refine (HV.out).mono ?_
    rintro e w2 ⟨rfl, hb2⟩
    have HZ2 := Lib.hid (HZa.out.step (lo := wa.heap.size) (by omega) hb2)
    have HB2 := Lib.hid (HBa.out.trans (hb2.mono HBa.out.size))
    have hs2 : w.heap.size + 1 ≤ w2.heap.size := by have := hb2.size; omega
    clear hb2
    have rz := HZ2.out
    have z0 := rz.c0
    have z1 := rz.c1
    have y0 := rz.f0
    have y1 := rz.f1
    clear rz
    go_wp2
    obtain ⟨r0, r1⟩ := HZ2.out.read (.int .i64 0) (.slice none 0 0)
    refine bodyPost_ret (v := .tuple #[.agg #[.int .i64 0, .slice none 0 0], .int .i64 1]) (by simp [results, Try.results5, go_sem, r0, r1]) rfl ⟨⟨none, 0, 0, fun _ => (none, 0), rfl, rfl, OwnM.nil_ _ _ _⟩, by first | exact HB2.out | exact below_set2 HB2.out (by omega)⟩
  rw [hs] at hV
  have HV := Lib.hid hV
  have hm := of_decide_eq_true (show decide ((1 ≤ x.length ∧ x.length ≤ 10) ∧ ∀ i, i < x.length → molAt x i i) = true from hs)
  have hq10 : q ≤ 10 := by omega
  have hq0 : 0 < q := by omega
  have hPk := pom_pl hs
  obtain ⟨n, hnd⟩ : ∃ n, n = pomN x := ⟨_, rfl⟩
  have hsq0 := sqB_ent (n := n) (hm.2 0 (by omega)).1 (by rw [hnd]; rfl)
  have hn10 : n ≤ 10 := by omega
  have hn1 : 1 ≤ n := by omega
  obtain ⟨M, hM⟩ : ∃ M, M = n * n := ⟨_, rfl⟩
  have hM100 : M ≤ 10 * 10 := by rw [hM]; exact Nat.mul_le_mul hn10 hn10
  have hMi : (n : Int) * (n : Int) = (M : Int) := by rw [hM, Int.natCast_mul]
  have hwM : IntKind.i64.wrap ((n : Int) * (n : Int)) = (M : Int) := by rw [hMi]; exact IntWalk.i64_in _ (by omega)
  have hRP : pomP x = if M ≤ 32 then (if q + 1 = n then (M : Int) else 0) else 0 := by unfold pomP; rw [if_pos hs, ← hnd, ← hM, hq]
  have hRX : pomX x = if M ≤ 32 then (if q + 1 = n then sortLL (pomI n x) else []) else [] := by unfold pomX; rw [if_pos hs, ← hnd, ← hM, hq]
  have hRC : pomC x = if M ≤ 32 then (if q + 1 = n then 0 else 6) else 2 := by unfold pomC; rw [if_pos hs, ← hnd, ← hM, hq]
  rw [hRP, hRX, hRC]
  obtain ⟨b, off, e, hb, hc0⟩ := hr.at_ 0 (by omega)
  subst e
  rw [Nat.add_zero, show (pln x 0).length = n from hnd.symm] at hc0
  have HC0 := Lib.hid hc0
  have HR := Lib.hid hr
  have HQ := Lib.hid hq
  have hq0i : (0 : Int) < (q : Int) := by omega
  rw [← hnd] at hPk
  have HPk := Lib.hid hPk
  by_cases h32 : M ≤ 32
  rotate_left
  · rw [if_neg h32, if_neg h32, if_neg h32]
    have h32d : (32 : Int) < (M : Int) := by omega
    clear hV hs hwa hZa hBa hr hq hw hz hpl hm hnd hM hMi hRP hRX hRC hsq0 hc0 h32 hPk
    go_enter Try.func5, Try.ntmps5
    go_wp2_with fail
    rw [← HWa.out]
    refine (HV.out).mono ?_
    rintro e w2 ⟨rfl, hb2⟩
    have HZ2 := Lib.hid (HZa.out.step (lo := wa.heap.size) (by omega) hb2)
    have HB2 := Lib.hid (HBa.out.trans (hb2.mono HBa.out.size))
    have hs2 : w.heap.size + 1 ≤ w2.heap.size := by have := hb2.size; omega
    clear hb2
    have hc2 := (HB2.out.cell (p := ⟨b, off, none⟩) hb).trans HC0.out
    have hc2' := hc2
    clear hc2
    have rz := HZ2.out
    have z0 := rz.c0
    have z1 := rz.c1
    have y0 := rz.f0
    have y1 := rz.f1
    clear rz
    go_wp2
    obtain ⟨r0, r1⟩ := HZ2.out.read (.int .i64 0) (.slice none 0 0)
    refine bodyPost_ret (v := .tuple #[.agg #[.int .i64 0, .slice none 0 0], .int .i64 2]) (by simp [results, Try.results5, go_sem, r0, r1]) rfl ⟨⟨none, 0, 0, fun _ => (none, 0), rfl, rfl, OwnM.nil_ _ _ _⟩, by first | exact HB2.out | exact below_set2 HB2.out (by omega)⟩
  rw [if_pos h32, if_pos h32, if_pos h32]
  have h32d : ¬ (32 : Int) < (M : Int) := by omega
  have hwn1 : IntKind.i64.wrap ((n : Int) - 1) = ((n - 1 : Nat) : Int) := by rw [show (n : Int) - 1 = ((n - 1 : Nat) : Int) by omega]; exact IntWalk.i64_in _ (by omega)
  by_cases hqn : q + 1 = n
  rotate_left
  · rw [if_neg hqn, if_neg hqn, if_neg hqn]
    have hqd : ((q : Int) != ((n - 1 : Nat) : Int)) = true := by simp; omega
    have hqd2 : ((q : Int) == ((n - 1 : Nat) : Int)) = false := by simp; omega
    have hqd3 : ¬ q = n - 1 := by omega
    clear hV hs hwa hZa hBa hr hq hw hz hpl hm hnd hM hMi hRP hRX hRC hsq0 hc0 hPk hqn
    go_enter Try.func5, Try.ntmps5
    go_wp2_with fail
    rw [← HWa.out]
    refine (HV.out).mono ?_
    rintro e w2 ⟨rfl, hb2⟩
    have HZ2 := Lib.hid (HZa.out.step (lo := wa.heap.size) (by omega) hb2)
    have HB2 := Lib.hid (HBa.out.trans (hb2.mono HBa.out.size))
    have hs2 : w.heap.size + 1 ≤ w2.heap.size := by have := hb2.size; omega
    clear hb2
    have hc2 := (HB2.out.cell (p := ⟨b, off, none⟩) hb).trans HC0.out
    have hc2' := hc2
    skip
    clear hc2
    have rz := HZ2.out
    have z0 := rz.c0
    have z1 := rz.c1
    have y0 := rz.f0
    have y1 := rz.f1
    clear rz
    go_wp2
    obtain ⟨r0, r1⟩ := HZ2.out.read (.int .i64 0) (.slice none 0 0)
    refine bodyPost_ret (v := .tuple #[.agg #[.int .i64 0, .slice none 0 0], .int .i64 6]) (by simp [results, Try.results5, go_sem, r0, r1]) rfl ⟨⟨none, 0, 0, fun _ => (none, 0), rfl, rfl, OwnM.nil_ _ _ _⟩, by first | exact HB2.out | exact below_set2 HB2.out (by omega)⟩
  rw [if_pos hqn, if_pos hqn, if_pos hqn]
  have hqe : n - 1 = q := by omega
  have hqd : ((q : Int) != ((n - 1 : Nat) : Int)) = false := by simp; omega
  have hn5 : n ≤ 5 := sq_le5 (by rw [← hM]; exact h32)
  have hlen : (pomS n x).length = 2 * n + n * q := by rw [(pom_perm n x).length_eq, pomI_len, hq]
  have hnq : n * q ≤ 5 * 5 := Nat.mul_le_mul hn5 (by omega)
  have HSo := Lib.hid (fun (W : World) (A7 : Option Addr) (s c7 : Nat) (R7 : Spine) (hr : RdM W A7 c7 R7 (pomS n x)) (hs : (pomS n x).length = s) (hcap : NilCap R7 s) => (show Calls Try.prog 15 #[.slice A7 s c7] W (PostM W (sortLL (pomI n x))) from by
    have := l10Sort_c W A7 s c7 R7 (pomS n x) hr hs hcap (by omega) (fun k hk => by
      have := pomI_rows (n := n) (x := x) ((pom_perm n x).mem_iff.1 (show row (pomS n x) k ∈ pomS n x by rw [row_eq (by omega)]; exact List.getElem_mem _))
      have := Nat.mul_le_mul hn5 hn5
      omega)
    rwa [sortLL_permA (pom_perm n x)] at this))
  have HLp := Lib.hid (show pomS n x = rcL n n ++ pomL n x q from by unfold pomS; rw [hq])
  have hm25 : M ≤ 25 := by rw [hM]; exact Nat.mul_le_mul hn5 hn5
  have HMe := Lib.hid hM
  generalize sortLL (pomI n x) = rX at *
  clear hV hs hwa hZa hBa hr hq hw hz hpl hm hnd hM hMi hRP hRX hRC hsq0 hc0 hPk hlen
  go_enter Try.func5, Try.ntmps5
  go_wp2_with fail
  rw [← HWa.out]
  refine (HV.out).mono ?_
  rintro e w2 ⟨rfl, hb2⟩
  have HZ2 := Lib.hid (HZa.out.step (lo := wa.heap.size) (by omega) hb2)
  have HB2 := Lib.hid (HBa.out.trans (hb2.mono HBa.out.size))
  have hs2 : w.heap.size + 1 ≤ w2.heap.size := by have := hb2.size; omega
  clear hb2
  have hc2 := (HB2.out.cell (p := ⟨b, off, none⟩) hb).trans HC0.out
  have HO0 := Lib.hid (show OwnM (w2.alloc (.cells #[] 35)) w2.heap.size (some ⟨w2.heap.size, 0, none⟩) 0 (fun _ => (none, 0)) (rcL n 0) from OwnM.lit0 w2 (Nat.le_refl w2.heap.size) _)
  have HOb := Lib.hid (below_boxed w2 (.cells #[] 35))
  go_wp2
  clear hc2
  go_loopw [5, 6] (fun o v wr => ∃ (k t : Nat) (A' : Option Addr) (c' : Nat) (R' : Spine), k ≤ n ∧ v = .int .i64 k ∧ o = .slice A' t c' ∧ Hid ((rcL n k).length = t) ∧ Hid (OwnM wr w2.heap.size A' c' R' (rcL n k)) ∧ Hid (Below w2.heap.size w2 wr)) (fun _ v _ => n - (intOf v).toNat)
  case atStart => exact ⟨0, 0, _, _, _, Nat.zero_le _, rfl, rfl, Lib.hid rfl, HO0, HOb⟩
  case round =>
    obtain ⟨k, t, A', c', R', hk, rfl, rfl, HT, HO, HBk⟩ := hrel
    have hszk := HBk.out.size
    have ht : t ≤ 10 := by have h1 := HT.out; rw [rcL_len] at h1; omega
    by_cases hkn : k < n
    · have hk0 : (0 : Int) ≤ (k : Int) := by omega
      have hk1 : (k : Int) < (n : Int) := by omega
      obtain ⟨um, hum⟩ : ∃ um, um = n * k := ⟨_, rfl⟩
      have hum2 : um ≤ 5 * 5 := by rw [hum]; exact Nat.mul_le_mul hn5 (by omega)
      have hwum : IntKind.i64.wrap ((n : Int) * (k : Int)) = (um : Int) := by rw [← Int.natCast_mul, ← hum]; exact IntWalk.i64_in _ (by omega)
      have HUm := Lib.hid hum
      have HV1 := Lib.hid (show OwnI ((wr.alloc (.cells #[] 2)).alloc (.cells #[] 2)) wr.heap.size (some ⟨wr.heap.size, 0, none⟩) 0 (rwL n k 0) from (OwnI.lit0 wr (Nat.le_refl _)).alloc _)
      have HV2 := Lib.hid (show OwnI ((wr.alloc (.cells #[] 2)).alloc (.cells #[] 2)) wr.heap.size (some ⟨wr.heap.size + 1, 0, none⟩) 0 (clL n k 0) from lit0_two wr)
      have HVa := Lib.hid (show ApartA (some ⟨wr.heap.size, 0, none⟩) (some ⟨wr.heap.size + 1, 0, none⟩) from fun g e1 e2 => by rw [blk_some] at e1 e2; injection e1 with e1; injection e2 with e2; omega)
      have HVb := Lib.hid ((below_boxed wr (.cells #[] 2)).alloc (by simp) (.cells #[] 2))
      clear hum
      obtain ⟨wo, rfl⟩ : ∃ wo, wo = wr := ⟨_, rfl⟩
      go_wp2
      go_loopw [7, 8, 9] (fun o p v wr => ∃ (y : Nat) (A1 : Option Addr) (c1 : Nat) (A2 : Option Addr) (c2 : Nat), y ≤ n ∧ v = .int .i64 y ∧ o = .slice A1 y c1 ∧ p = .slice A2 y c2 ∧ Hid (OwnI wr wo.heap.size A1 c1 (rwL n k y)) ∧ Hid (OwnI wr wo.heap.size A2 c2 (clL n k y)) ∧ Hid (ApartA A1 A2) ∧ Hid (Below wo.heap.size wo wr)) (fun _ _ v _ => n - (intOf v).toNat)
      case atStart => exact ⟨0, _, _, _, _, Nat.zero_le _, rfl, rfl, rfl, HV1, HV2, HVa, HVb⟩
      case round =>
        obtain ⟨y, A1, c1, A2, c2, hy, rfl, rfl, rfl, HO1, HO2, HAp, HB5⟩ := hrel
        have hsz5 := HB5.out.size
        by_cases hyn : y < n
        · have hy0 : (0 : Int) ≤ (y : Int) := by omega
          have hy1 : (y : Int) < (n : Int) := by omega
          obtain ⟨uy, huy⟩ : ∃ uy, uy = n * y := ⟨_, rfl⟩
          have huy2 : uy ≤ 5 * 5 := by rw [huy]; exact Nat.mul_le_mul hn5 (by omega)
          have hwuy : IntKind.i64.wrap ((n : Int) * (y : Int)) = (uy : Int) := by rw [← Int.natCast_mul, ← huy]; exact IntWalk.i64_in _ (by omega)
          have HL1 := Lib.hid (show (rwL n k y).length = y from by simp [rwL])
          have HL2 := Lib.hid (show (clL n k y).length = y from by simp [clL])
          have HS1 := Lib.hid (show rwL n k (y + 1) = rwL n k y ++ [(um : Int) + (y : Int)] from by rw [rwL_succ, ← HUm.out, Int.natCast_add])
          have HS2 := Lib.hid (show clL n k (y + 1) = clL n k y ++ [(uy : Int) + (k : Int)] from by rw [clL_succ, ← huy, Int.natCast_add])
          clear huy
          go_wp2_with (at_builtin; refine wpI_append rfl _ _ rfl wo.heap.size _ _ _ (rwL n k y) ((um : Int) + (y : Int)) wr.heap.size rfl rfl HL1.out (HO1.out.alloc (.cells #[.int .i64 ((um : Int) + (y : Int))] 2)) (World.cell?_alloc_at _ _ _ _ rfl) (by omega) (by simp; omega) ?_; intro A3 c3 w3 ho3 hg3 ha3; refine stopQ ?_)
          have HB3 := Lib.hid ((HB5.out.alloc HB5.out.size (.cells #[.int .i64 ((um : Int) + (y : Int))] 2)).trans (below_blk (HO1.out.alloc (.cells #[.int .i64 ((um : Int) + (y : Int))] 2)) hg3 (Nat.le_refl _) (by simp; omega)))
          have hsz3 := HB3.out.size
          have HP := Lib.hid ((HO2.out.alloc (.cells #[.int .i64 ((um : Int) + (y : Int))] 2)).grown_apart hg3 HAp.out)
          have HA3 := Lib.hid (HAp.out.grow (HO2.out.alloc (.cells #[.int .i64 ((um : Int) + (y : Int))] 2)) ha3)
          have HO3 := Lib.hid (show OwnI w3 wo.heap.size A3 c3 (rwL n k (y + 1)) from by rw [HS1.out]; exact ho3)
          clear ho3 hg3 ha3
          refine Lib.hid ?_
          go_wp2_with (at_builtin; refine wpI_append rfl _ _ rfl wo.heap.size _ _ _ (clL n k y) ((uy : Int) + (k : Int)) w3.heap.size rfl rfl HL2.out (HP.out.alloc (.cells #[.int .i64 ((uy : Int) + (k : Int))] 2)) (World.cell?_alloc_at _ _ _ _ rfl) (by omega) (by simp; omega) ?_; intro A5 c5 w5 ho5 hg5 ha5; refine stopQ ?_)
          have HB6 := Lib.hid ((HB3.out.alloc HB3.out.size (.cells #[.int .i64 ((uy : Int) + (k : Int))] 2)).trans (below_blk (HP.out.alloc (.cells #[.int .i64 ((uy : Int) + (k : Int))] 2)) hg5 (Nat.le_refl _) (by simp; omega)))
          have HQ1 := Lib.hid ((HO3.out.alloc (.cells #[.int .i64 ((uy : Int) + (k : Int))] 2)).grown_apart hg5 HA3.out.symm)
          have HA5 := Lib.hid (ApartA.symm (HA3.out.symm.grow (HO3.out.alloc (.cells #[.int .i64 ((uy : Int) + (k : Int))] 2)) ha5))
          have HQ2 := Lib.hid (show OwnI w5 wo.heap.size A5 c5 (clL n k (y + 1)) from by rw [HS2.out]; exact ho5)
          clear ho5 hg5 ha5
          refine Lib.hid ?_
          go_wp2
          go_roundw
          case rel => exact ⟨y + 1, A3, c3, A5, c5, by omega, by go_num, rfl, rfl, HQ1, HQ2, HA5, HB6⟩
          case measure => simp [intOf] <;> omega
        · obtain rfl : y = n := by omega
          have HL1 := Lib.hid (show (rwL y k y).length = y from by simp [rwL])
          have HL2 := Lib.hid (show (clL y k y).length = y from by simp [clL])
          have HLit := Lib.hid (OwnM.lit2 HO1.out HO2.out HL1.out HL2.out HAp.out hsz5)
          have hbo := HB5.out.alloc hsz5 (.cells #[.slice A1 y c1, .slice A2 y c2] 35)
          have HOv := Lib.hid (show (wr.alloc (.cells #[.slice A1 y c1, .slice A2 y c2] 35)).ownsRow w2.heap.size 35 1 (.slice A' t c') t (valsM R' (rcL y k)) from by
            have h2 : (wr.alloc (.cells #[.slice A1 y c1, .slice A2 y c2] 35)).ownsRow w2.heap.size 35 1 (.slice A' (rcL y k).length c') (rcL y k).length (valsM R' (rcL y k)) := (HO.out.below hbo).own
            rw [HT.out] at h2
            exact h2)
          have HBo := Lib.hid hbo
          have hszr : w2.heap.size ≤ (wr.alloc (.cells #[.slice A1 y c1, .slice A2 y c2] 35)).heap.size := by simp; omega
          clear hbo
          go_wp2_with (at_builtin; refine wpA_append rfl _ _ rfl w2.heap.size A' c' t (valsM R' (rcL y k)) (some ⟨wr.heap.size, 0, none⟩) 2 2 (lit2R A1 A2 c1 c2) [rwL y k y, clL y k y] rfl rfl HOv.out HLit.out.rd rfl (by omega) hszr ?_; intro A9 c9 w9 ho9 hg9 ha9)
          have HO9 := Lib.hid (show OwnM w9 w2.heap.size A9 c9 (joinS R' (lit2R A1 A2 c1 c2) (rcL y k).length) (rcL y (k + 1)) from by
            rw [rcL_succ]
            exact OwnM.grow_join HO.out HBo.out (Nat.le_refl _) hszk HLit.out (by rw [HT.out]; exact ho9) hg9)
          have HB9 := Lib.hid ((HBk.out.trans (HBo.out.mono hszk)).trans (below_blkV HOv.out hg9 (Nat.le_refl _) hszr))
          have HT9 := Lib.hid (show (rcL y (k + 1)).length = t + 2 from by rw [rcL_succ, List.length_append, HT.out]; rfl)
          clear ho9 hg9 ha9
          go_wp2
          go_roundw
          case rel => exact ⟨k + 1, t + 2, A9, c9, _, by omega, by go_num, rfl, HT9, HO9, HB9⟩
          case measure => simp [intOf] <;> omega
    · obtain rfl : k = n := by omega
      have HO1 := Lib.hid (show OwnM wr w2.heap.size A' c' R' (rcL k k ++ pomL k x 0) from by rw [show pomL k x 0 = [] from rfl, List.append_nil]; exact HO.out)
      have HS1 := Lib.hid (show (rcL k k ++ pomL k x 0).length = t from by rw [show pomL k x 0 = [] from rfl, List.append_nil]; exact HT.out)
      obtain ⟨n, rfl⟩ : ∃ n, n = k := ⟨_, rfl⟩
      go_wp2
      go_loopw [5, 10] (fun o v wr => ∃ (k t : Nat) (A' : Option Addr) (c' : Nat) (R' : Spine), k ≤ q ∧ v = .int .i64 k ∧ o = .slice A' t c' ∧ Hid ((rcL n n ++ pomL n x k).length = t) ∧ Hid (OwnM wr w2.heap.size A' c' R' (rcL n n ++ pomL n x k)) ∧ Hid (Below w2.heap.size w2 wr)) (fun _ v _ => q - (intOf v).toNat)
      case atStart => exact ⟨0, t, _, _, _, Nat.zero_le _, rfl, rfl, HS1, HO1, HBk⟩
      case round =>
        obtain ⟨k, t, A', c', R', hk, rfl, rfl, HT, HO, HB⟩ := hrel
        have hszk := HB.out.size
        have ht : t ≤ 40 := by
          have h1 := HT.out
          rw [List.length_append, rcL_len, pomL_len] at h1
          have := Nat.mul_le_mul hn5 (show k ≤ 5 by omega)
          omega
        by_cases hkq : k < q
        · have hk0 : (0 : Int) ≤ (k : Int) := by omega
          have hk1 : (k : Int) < (q : Int) := by omega
          have hkx : k < x.length := by rw [HQ.out]; exact hkq
          obtain ⟨hpl1, hpl2, hpl3⟩ := HPk.out k hkx
          have HPl1 := Lib.hid hpl1
          have HPl2 := Lib.hid hpl2
          have HPl3 := Lib.hid hpl3
          have HO2 := Lib.hid (show OwnM wr w2.heap.size A' c' R' (rcL n n ++ pomL n x k ++ lnS (plE x k) n 0) from by rw [show lnS (plE x k) n 0 = [] from rfl, List.append_nil]; exact HO.out)
          have HS2 := Lib.hid (show (rcL n n ++ pomL n x k ++ lnS (plE x k) n 0).length = t from by rw [show lnS (plE x k) n 0 = [] from rfl, List.append_nil]; exact HT.out)
          clear hpl1 hpl2 hpl3
          go_wp2
          go_loopw [5, 11] (fun o v wr => ∃ (u s : Nat) (A' : Option Addr) (c' : Nat) (R' : Spine), u ≤ n ∧ v = .int .i64 u ∧ o = .slice A' s c' ∧ s ≤ t + u ∧ Hid ((rcL n n ++ pomL n x k ++ lnS (plE x k) n u).length = s) ∧ Hid (OwnM wr w2.heap.size A' c' R' (rcL n n ++ pomL n x k ++ lnS (plE x k) n u)) ∧ Hid (Below w2.heap.size w2 wr)) (fun _ v _ => n - (intOf v).toNat)
          case atStart => exact ⟨0, t, _, _, _, Nat.zero_le _, rfl, rfl, by omega, HS2, HO2, HB⟩
          case round =>
            obtain ⟨u, s, A3, c3, R3, hu, rfl, rfl, hs, HS3, HO3, HB3⟩ := hrel
            have hsz3 := HB3.out.size
            by_cases hun : u < n
            · have hu0 : (0 : Int) ≤ (u : Int) := by omega
              have hu1 : (u : Int) < (n : Int) := by omega
              have HW0 := Lib.hid (show OwnI (wr.alloc (.cells #[] 2)) wr.heap.size (some ⟨wr.heap.size, 0, none⟩) 0 (lnC (plE x k) n u 0) from OwnI.lit0 wr (Nat.le_refl _))
              have HWb := Lib.hid (below_boxed wr (.cells #[] 2))
              obtain ⟨wq, rfl⟩ : ∃ wq, wq = wr := ⟨_, rfl⟩
              go_wp2
              go_loopw [12, 13] (fun o v wr => ∃ (j l : Nat) (A' : Option Addr) (c' : Nat), j ≤ M ∧ v = .int .i64 j ∧ o = .slice A' l c' ∧ l ≤ j ∧ Hid ((lnC (plE x k) n u j).length = l) ∧ Hid (OwnI wr wq.heap.size A' c' (lnC (plE x k) n u j)) ∧ Hid (Below wq.heap.size wq wr)) (fun _ v _ => M - (intOf v).toNat)
              case atStart => exact ⟨0, 0, _, _, Nat.zero_le _, rfl, rfl, Nat.le_refl _, Lib.hid rfl, HW0, HWb⟩
              case round =>
                obtain ⟨j, l, A6, c6, hj, rfl, rfl, hl, HL6, HO6, HB6⟩ := hrel
                have hsz6 := HB6.out.size
                by_cases hjM : j < M
                · have hj0 : (0 : Int) ≤ (j : Int) := by omega
                  have hj1 : (j : Int) < (M : Int) := by omega
                  have HBw := Lib.hid (HB2.out.trans ((HB3.out.trans (HB6.out.mono hsz3)).mono HB2.out.size))
                  obtain ⟨jd, hjd⟩ : ∃ d, d = j / n := ⟨_, rfl⟩
                  obtain ⟨jm, hjm⟩ : ∃ d, d = j % n := ⟨_, rfl⟩
                  have hjdn : jd < n := by rw [hjd]; exact Nat.div_lt_of_lt_mul (by rw [← HMe.out]; exact hjM)
                  have hjmn : jm < n := by rw [hjm]; exact Nat.mod_lt _ (by omega)
                  have htd : (j : Int).tdiv (n : Int) = (jd : Int) := by rw [Int.tdiv_eq_ediv_of_nonneg (by omega), hjd]; simp
                  have htm : (j : Int).tmod (n : Int) = (jm : Int) := by rw [Int.tmod_eq_emod_of_nonneg (by omega), hjm]; simp
                  have htd2 : (j : Int) / (n : Int) = (jd : Int) := by rw [hjd]; simp
                  have htm2 : (j : Int) % (n : Int) = (jm : Int) := by rw [hjm]; simp
                  have hwd : IntKind.i64.wrap (jd : Int) = (jd : Int) := IntWalk.i64_in _ (by omega)
                  have hwm : IntKind.i64.wrap (jm : Int) = (jm : Int) := IntWalk.i64_in _ (by omega)
                  obtain ⟨b1, o1, e1, hb1, hc1⟩ := HR.out.at_ k hkx
                  injection e1 with e1
                  injection e1 with e1 e1'
                  subst e1 e1'
                  obtain ⟨b2, o2, e2, hb2, hc2⟩ := (HR.out.rows k hkx).at_ jd (by rw [HPl1.out]; exact hjdn)
                  obtain ⟨b3, o3, e3, hb3, hc3⟩ := ((HR.out.rows k hkx).rows jd (by rw [HPl1.out]; exact hjdn)).at_ jm (by rw [HPl2.out jd hjdn]; exact hjmn)
                  rw [HPl1.out, e2] at hc1
                  rw [HPl2.out jd hjdn, e3] at hc2
                  obtain ⟨sv, _, hsv⟩ := HPl3.out jd jm hjdn hjmn
                  rw [hsv] at hc3
                  have hd1 := (HBw.out.cell (p := ⟨b, off + k, none⟩) hb1).trans hc1
                  have hd2 := (HBw.out.cell (p := ⟨b2, o2 + jd, none⟩) hb2).trans hc2
                  have hd3 := (HBw.out.cell (p := ⟨b3, o3 + jm, none⟩) hb3).trans hc3
                  have HF := Lib.hid (show plE x k (j / n) (j % n) = (sv : Int) from by rw [← hjd, ← hjm]; exact hsv)
                  have hjd0 : (0 : Int) ≤ (jd : Int) := by omega
                  have hjd1 : (jd : Int) < (n : Int) := by omega
                  have hjm0 : (0 : Int) ≤ (jm : Int) := by omega
                  have hjm1 : (jm : Int) < (n : Int) := by omega
                  have hnn : (n : Int) ≠ 0 := by omega
                  clear hc1 hc2 hc3 hsv hjd hjm e2 e3 hb1 hb2 hb3
                  by_cases hsu : sv = u
                  · subst hsu
                    have HC6 := Lib.hid (lnC_hit (v := sv) HF.out)
                    go_wp2
                    go_quiet (fail)
                    clear hd1 hd2 hd3
                    have HO7 := Lib.hid (HO6.out.drewN nq)
                    have HB7 := Lib.hid (below_drewN HB6.out nq)
                    generalize wr.drewN nq = wr at *
                    have hsz7 := HB7.out.size
                    go_wp2_with (at_builtin; refine wpI_append rfl _ _ rfl wq.heap.size _ _ _ (lnC (plE x k) n sv j) ((j : Int)) wr.heap.size rfl rfl HL6.out (HO7.out.alloc (.cells #[.int .i64 ((j : Int))] 2)) (World.cell?_alloc_at _ _ _ _ rfl) (by omega) (by simp; omega) ?_; intro A3 c3 w3 ho3 hg3 ha3)
                    have hB3 : Below wq.heap.size wq w3 := (HB7.out.alloc HB7.out.size (.cells #[.int .i64 ((j : Int))] 2)).trans (below_blk (HO7.out.alloc (.cells #[.int .i64 ((j : Int))] 2)) hg3 (Nat.le_refl _) (by simp; omega))
                    have HO3 := Lib.hid ho3
                    have HB3 := Lib.hid hB3
                    clear ho3 hg3 ha3 hB3
                    have HO8 := Lib.hid (show OwnI w3 wq.heap.size A3 c3 (lnC (plE x k) n sv (j + 1)) from by rw [HC6.out]; exact HO3.out)
                    have HL8 := Lib.hid (show (lnC (plE x k) n sv (j + 1)).length = l + 1 from by rw [HC6.out, List.length_append, HL6.out]; rfl)
                    go_wp2
                    go_roundw
                    case rel => exact ⟨j + 1, l + 1, A3, c3, by omega, by go_num, rfl, by omega, HL8, HO8, HB3⟩
                    case measure => simp [intOf] <;> omega
                  · have hsn : ((sv : Int) == (u : Int)) = false := by simp; omega
                    have hsn2 : ¬ (sv : Int) = (u : Int) := by omega
                    have HC6 := Lib.hid (lnC_miss (f := plE x k) (n := n) (v := u) (k := j) (by rw [HF.out]; exact hsn2))
                    go_wp2
                    go_quiet (fail)
                    clear hd1 hd2 hd3
                    have HO7 := Lib.hid (show OwnI (wr.drewN nq) wq.heap.size A6 c6 (lnC (plE x k) n u (j + 1)) from by rw [HC6.out]; exact HO6.out.drewN nq)
                    have HL7 := Lib.hid (show (lnC (plE x k) n u (j + 1)).length = l from by rw [HC6.out]; exact HL6.out)
                    have HB7 := Lib.hid (below_drewN HB6.out nq)
                    go_wp2
                    go_roundw
                    case rel => exact ⟨j + 1, l, A6, c6, by omega, by go_num, rfl, by omega, HL7, HO7, HB7⟩
                    case measure => simp [intOf] <;> omega
                · obtain rfl : j = M := by omega
                  have HOw := Lib.hid (show OwnI wr wq.heap.size A6 c6 (lnT (plE x k) n u n) from by rw [← lnT_now, ← HMe.out]; exact HO6.out)
                  have HLw := Lib.hid (show (lnT (plE x k) n u n).length = l from by rw [← lnT_now, ← HMe.out]; exact HL6.out)
                  have HOz := Lib.hid ((HO3.out.below HB6.out).alloc (.cells #[.slice A6 l c6] 35))
                  have HIz := Lib.hid ((HOw.out.lower (lo' := w2.heap.size) hsz3).alloc (.cells #[.slice A6 l c6] 35))
                  have HAq := Lib.hid (later_apart HO3.out HOw.out)
                  have HBz := Lib.hid (HB3.out.trans (HB6.out.mono hsz3))
                  have hszz := HBz.out.size
                  go_wp2_with (at_builtin; refine wpM_append rfl _ _ rfl w2.heap.size _ _ _ R3 (rcL n n ++ pomL n x k ++ lnS (plE x k) n u) A6 l c6 (lnT (plE x k) n u n) wr.heap.size rfl rfl HS3.out HLw.out HOz.out HIz.out HAq.out (World.cell?_alloc_at _ _ _ _ rfl) (by omega) (by simp; omega) ?_; intro A9 c9 R9 w9 ho9 hg9 ha9)
                  have HB9 := Lib.hid ((HBz.out.alloc HBz.out.size (.cells #[.slice A6 l c6] 35)).trans (below_blkM HOz.out hg9 (Nat.le_refl _) (by simp; omega)))
                  have HO9 := Lib.hid (show OwnM w9 w2.heap.size A9 c9 R9 (rcL n n ++ pomL n x k ++ lnS (plE x k) n (u + 1)) from by rw [lnS_succ, ← List.append_assoc]; exact ho9)
                  have HS9 := Lib.hid (show (rcL n n ++ pomL n x k ++ lnS (plE x k) n (u + 1)).length = s + 1 from by rw [lnS_succ, ← List.append_assoc, List.length_append, HS3.out]; rfl)
                  clear ho9 hg9 ha9
                  go_wp2
                  go_roundw
                  case rel => exact ⟨u + 1, s + 1, _, _, _, by omega, by go_num, rfl, by omega, HS9, HO9, HB9⟩
                  case measure => simp [intOf] <;> omega
            · obtain rfl : u = n := by omega
              have HO9 := Lib.hid (show OwnM wr w2.heap.size A3 c3 R3 (rcL u u ++ pomL u x (k + 1)) from by rw [pomL_succ, ← List.append_assoc]; exact HO3.out)
              have HS9 := Lib.hid (show (rcL u u ++ pomL u x (k + 1)).length = s from by rw [pomL_succ, ← List.append_assoc]; exact HS3.out)
              go_wp2
              go_roundw
              case rel => exact ⟨k + 1, s, A3, c3, R3, by omega, by go_num, rfl, HS9, HO9, HB3⟩
              case measure => simp [intOf] <;> omega
        · obtain rfl : k = q := by omega
          have HOf := Lib.hid (show OwnM wr w2.heap.size A' c' R' (pomS n x) from by rw [HLp.out]; exact HO.out)
          have HTf := Lib.hid (show (pomS n x).length = t from by rw [HLp.out]; exact HT.out)
          have HCf := Lib.hid (show NilCap R' t from by have := HOf.out.nilCap; rwa [HTf.out] at this)
          have HZ8 := Lib.hid (HZ2.out.step (lo := w2.heap.size) (by omega) HB.out)
          have HB8 := Lib.hid (HB2.out.trans (HB.out.mono HB2.out.size))
          have hs8 : w.heap.size + 1 ≤ wr.heap.size := by omega
          go_wp2_with fail
          refine (HSo.out _ A' t c' R' HOf.out.rd HTf.out HCf.out).mono ?_
          rintro e w9 ⟨⟨A9, n9, c9, R9, rfl, hn9, ho9⟩, hb9⟩
          have HZ9 := Lib.hid (HZ8.out.step (lo := wr.heap.size) (by omega) hb9)
          have HB9 := Lib.hid (HB8.out.trans (hb9.mono HB8.out.size))
          have HO9 := Lib.hid (show OwnM w9 (w.heap.size + 1) A9 c9 R9 (rX) from ho9.lower (by omega))
          have HN9 := Lib.hid hn9
          clear hb9 ho9 hn9
          generalize rX = lst at *
          generalize (M : Int) = ptz at *
          generalize (0 : Int) = cdz at *
          have rz := HZ9.out
          have z0 := rz.c0
          have z1 := rz.c1
          have y0 := rz.f0
          have y1 := rz.f1
          clear rz
          go_wp2
          obtain ⟨r0, r1⟩ := HZ9.out.read (.int .i64 ptz) (.slice A9 n9 c9)
          refine bodyPost_ret (v := .tuple #[.agg #[.int .i64 ptz, .slice A9 n9 c9], .int .i64 cdz]) (by simp [results, Try.results5, go_sem, r0, r1]) rfl ⟨⟨A9, n9, c9, R9, rfl, HN9.out, own_set2 HO9.out (by omega) _ _⟩, below_set2 HB9.out (by omega)⟩
end Go.Proofs.Ythgbfgdnljgicaa
