/-
  Whether two squares are orthogonal: orthogonal of the program, l07Orthogonal of the reference. Conditions: those of each theorem.
-/
import Derived.Test.YthgbfgdnljgicaaPomA
import Derived.Test.YthgbfgdnljgicaaFlg
namespace Go.Proofs.Ythgbfgdnljgicaa
open Go.RowKit
set_option linter.unusedVariables false
set_option linter.unusedSimpArgs false

theorem ort_hit {n : Nat} {a b : List (List Int)} {x y : Nat} (hx : x < n) (hy : y < n) (h : hasB (ovT n a b x ++ ovR n a b x y) (ovF n a b x y) = true) : ortB n a b = false := by
  refine decide_eq_false fun hd => ?_
  have h2 := hd.sublist (ov_pre n a b hx (show y + 1 ≤ n from hy)).sublist
  rw [ovR_succ, ← List.append_assoc, List.nodup_append] at h2
  exact h2.2.2 _ (hasB_true.1 h) _ (by simp) rfl
theorem ort_next {n : Nat} {a b : List (List Int)} {x y : Nat} (hd : (ovT n a b x ++ ovR n a b x y).Nodup) (h : hasB (ovT n a b x ++ ovR n a b x y) (ovF n a b x y) = false) : (ovT n a b x ++ ovR n a b x (y + 1)).Nodup := by
  rw [ovR_succ, ← List.append_assoc, List.nodup_append]
  refine ⟨hd, by simp, fun u hu v hv e => ?_⟩
  rw [List.mem_singleton] at hv
  subst hv e
  exact hasB_false.1 h hu
theorem ov_nat {n : Nat} {a b : List (List Int)} (ha : sqB a = true) (hb : sqB b = true) (hla : a.length = n) (hlb : b.length = n) : ∀ x y, x < n → y < n → ∃ z : Nat, z < n * n ∧ ovF n a b x y = (z : Int) := fun x y hx hy => by
  obtain ⟨u, hu, e1⟩ := (sqB_ent ha hla).2.2 x y hx hy
  obtain ⟨v, hv, e2⟩ := (sqB_ent hb hlb).2.2 x y hx hy
  refine ⟨n * u + v, ?_, by unfold ovF; rw [e1, e2, Int.natCast_add, Int.natCast_mul]⟩
  have : n * (u + 1) ≤ n * n := Nat.mul_le_mul_left n hu
  rw [Nat.mul_succ] at this
  omega
/-- Alike outside one block. -/
def Exc (g : Nat) (w w' : World) : Prop := ∀ p : Addr, p.block ≠ g → w'.cell? p = w.cell? p
theorem Exc.refl (g : Nat) (w : World) : Exc g w w := fun _ _ => rfl
theorem Exc.store {g : Nat} {w w' : World} (h : Exc g w w') (k : Nat) (v : Value) : Exc g w (w'.setCell ⟨g, k, none⟩ v) := fun p hp =>
  (World.cell?_setCell_other _ _ _ _ (by intro e; rw [← e] at hp; exact hp rfl)).trans (h p hp)
theorem sq_rows {w : World} {lo g0 : Nat} {A : Option Addr} {c : Nat} {R : Spine} {f : Nat → Nat → Int} {n : Nat} (h : OwnM w lo A c R (sqTo f n n)) (hn : 1 ≤ n) (hg : g0 < lo) :
    ∃ G, A = some ⟨G, 0, none⟩ ∧ g0 ≠ G ∧ ∀ x, x < n → ∃ g' C, w.cell? ⟨G, x, none⟩ = some (.slice (some ⟨g', 0, none⟩) n C) ∧ g0 ≠ g' ∧ ∀ j, j < n → w.cell? ⟨g', j, none⟩ = some (.int .i64 (f x j)) := by
  obtain ⟨G, _, eA, _⟩ := h.sq_row (i := 0) (by omega) (by omega)
  have hG := h.lt eA
  refine ⟨G, eA, by omega, fun x hx => ?_⟩
  obtain ⟨g, g', eg, er, hlo, hgs, hg1, hg2⟩ := h.sq_row (i := x) hx (by omega)
  rw [eA] at eg
  injection eg with eg
  injection eg with eg
  subst eg
  exact ⟨g', _, hg1, by omega, fun j hj => (hg2 j hj).1⟩

set_option maxRecDepth 100000 in
set_option maxHeartbeats 4000000 in
theorem orthogonal_c (w : World) (A B : Option Addr) (n m c d : Nat) (R S : Spine) (a b : List (List Int)) (hr : RdM w A c R a) (hs : RdM w B d S b) (hla : a.length = n) (hlb : b.length = m) (ha : sqB a = true) (hb : sqB b = true) :
    Calls Try.prog 35 #[.slice A n c, .slice B m d] w (PostV w (.bool (decide (n = m) && ortB n a b))) := by
  have h10 := (sqB_ent ha hla).1
  have h11 := (sqB_ent hb hlb).1
  by_cases hnm : n = m
  rotate_left
  · rw [decide_eq_false hnm, Bool.false_and]
    have hd1 : ((n : Int) != (m : Int)) = true := by simp; omega
    have hd2 : ((n : Int) == (m : Int)) = false := by simp; omega
    clear hr hs hla hlb ha hb hnm
    go_enter Try.func35, Try.ntmps35
    go_wp2
    go_ret
    exact ⟨rfl, Below.refl _ _⟩
  subst hnm
  rw [decide_eq_true rfl, Bool.true_and]
  have hd1 : ((n : Int) != (n : Int)) = false := by simp
  have hn10 : n ≤ 10 := by omega
  have hn1 : 1 ≤ n := by omega
  have HNt := Lib.hid (ov_nat ha hb hla hlb)
  obtain ⟨P, hP⟩ : ∃ P, P = n * n := ⟨_, rfl⟩
  rw [← hP] at HNt
  have hP100 : P ≤ 10 * 10 := by rw [hP]; exact Nat.mul_le_mul hn10 hn10
  have hwP : IntKind.i64.wrap ((n : Int) * (n : Int)) = (P : Int) := by rw [← Int.natCast_mul, ← hP]; exact IntWalk.i64_in _ (by omega)
  have hmk := fun W : World => run_make_row' (P := Try.prog) 56 4 (.bool false) 1 Try.underlying56 infoB rfl .i64 .i64 P (by omega) (by omega) W
  have HMd := Lib.hid (OwnB.made w P (by unfold maxLen; omega) (Nat.le_refl w.heap.size))
  obtain ⟨T, hT⟩ : ∃ T, T = ortB n a b := ⟨_, rfl⟩
  rw [← hT]
  have HT := Lib.hid hT
  have HBm := Lib.hid (below_boxed w (.cells (madeCells #[.bool false] P) 4))
  have HSp := Lib.hid (superpose_c (w.alloc (.cells (madeCells #[.bool false] P) 4)) A B n c d R S a b (hr.below HBm.out) (hs.below HBm.out) hla hlb ha hb)
  clear hr hs hla hlb ha hb hP hT h10 h11
  go_enter Try.func35, Try.ntmps35
  go_wp2_with fail
  clear hmk
  refine (HSp.out).mono ?_
  rintro e w2 ⟨⟨A2, n2, c2, R2, rfl, hn2, ho2⟩, hb2⟩
  obtain rfl : n = n2 := by rw [length_sqTo] at hn2; exact hn2
  obtain ⟨G, rfl, hG, hrow⟩ := sq_rows (g0 := w.heap.size) ho2 hn1 (by simp)
  have HRow := Lib.hid hrow
  have HS2 := Lib.hid (HMd.out.below (hb2.mono (Nat.le_refl _)))
  have HB2 := Lib.hid (HBm.out.trans (hb2.mono (by simp)))
  obtain ⟨g0, hg0⟩ : ∃ g, g = w.heap.size := ⟨_, rfl⟩
  rw [← hg0] at hG HRow HS2
  have hg0' : w.heap.size ≤ g0 := by omega
  clear hn2 ho2 hb2 hrow HMd HSp HBm
  try rw [← hg0]
  clear hg0
  go_wp2
  go_loopw [25] (fun i wr => ∃ (x : Nat) (bs : List Bool), x ≤ n ∧ i = .int .i64 x ∧ Hid (FlagsOf P bs (ovT n a b x)) ∧ Hid ((ovT n a b x).Nodup) ∧ Hid (OwnB wr g0 g0 P bs) ∧ Hid (Exc g0 w2 wr) ∧ Hid (Below w.heap.size w wr)) (fun i _ => n - (intOf i).toNat)
  case atStart => exact ⟨0, _, Nat.zero_le _, rfl, Lib.hid (FlagsOf.zero P), Lib.hid (by simp [ovT]), HS2, Lib.hid (Exc.refl _ _), HB2⟩
  case round =>
    obtain ⟨x, bs, hx, rfl, HFl, HNd, HS, HE, HB⟩ := hrel
    by_cases hxn : x < n
    · obtain ⟨g', C, hc, hg', hent⟩ := HRow.out x hxn
      have hcr := (HE.out ⟨G, x, none⟩ (fun e => hG e.symm)).trans hc
      have HEn := Lib.hid hent
      have hx0 : (0 : Int) ≤ (x : Int) := by omega
      have hx2 : (x : Int) < (n : Int) := by omega
      have HFl0 := Lib.hid (show FlagsOf P bs (ovT n a b x ++ ovR n a b x 0) from by rw [show ovR n a b x 0 = [] from rfl, List.append_nil]; exact HFl.out)
      have HNd0 := Lib.hid (show (ovT n a b x ++ ovR n a b x 0).Nodup from by rw [show ovR n a b x 0 = [] from rfl, List.append_nil]; exact HNd.out)
      have HCr := Lib.hid (show w2.cell? ⟨G, x, none⟩ = some (.slice (some ⟨g', 0, none⟩) n C) from hc)
      clear hent hc
      go_wp2
      go_loopw [31] (fun i wr => ∃ (y : Nat) (bs : List Bool), y ≤ n ∧ i = .int .i64 y ∧ Hid (FlagsOf P bs (ovT n a b x ++ ovR n a b x y)) ∧ Hid ((ovT n a b x ++ ovR n a b x y).Nodup) ∧ Hid (OwnB wr g0 g0 P bs) ∧ Hid (Exc g0 w2 wr) ∧ Hid (Below w.heap.size w wr)) (fun i _ => n - (intOf i).toNat)
      case atStart => exact ⟨0, bs, Nat.zero_le _, rfl, HFl0, HNd0, HS, HE, HB⟩
      case round =>
        obtain ⟨y, bs, hy, rfl, HFl, HNd, HS, HE, HB⟩ := hrel
        by_cases hyn : y < n
        · obtain ⟨z, hzP, hz⟩ := HNt.out x y hxn hyn
          have hcy := (HE.out ⟨g', y, none⟩ (fun e => hg' e.symm)).trans (HEn.out y hyn)
          rw [hz] at hcy
          have hcr2 := (HE.out ⟨G, x, none⟩ (fun e => hG e.symm)).trans (show w2.cell? ⟨G, x, none⟩ = some (.slice (some ⟨g', 0, none⟩) n C) from HCr.out)
          have hfl := (HS.out.at_ hzP).1
          have hfr := (HS.out.at_ hzP).2
          have hfv := HFl.out.2 z hzP
          have hy0 : (0 : Int) ≤ (y : Int) := by omega
          have hy2 : (y : Int) < (n : Int) := by omega
          have hz0 : (0 : Int) ≤ (z : Int) := by omega
          have hz2 : (z : Int) < (P : Int) := by omega
          rcases hh : flag bs z with _ | _
          · rw [hh] at hfl hfv
            have HFl2 := Lib.hid (show FlagsOf P (bs.set z true) (ovT n a b x ++ ovR n a b x (y + 1)) from by rw [ovR_succ, ← List.append_assoc, hz]; exact HFl.out.snoc hzP)
            have HNd2 := Lib.hid (show (ovT n a b x ++ ovR n a b x (y + 1)).Nodup from ort_next HNd.out (by rw [hz]; exact hfv.symm))
            have HS5 := Lib.hid (HS.out.stored z true)
            have HE5 := Lib.hid (HE.out.store z (.bool true))
            have HB5 := Lib.hid (HB.out.setCell (p := ⟨g0, z, none⟩) hg0' (.bool true))
            clear hz hfv hh
            go_wp2
            go_roundw
            case rel => exact ⟨y + 1, bs.set z true, by omega, by go_num, HFl2, HNd2, HS5, HE5, HB5⟩
            case measure => simp [intOf] <;> omega
          · rw [hh] at hfl hfv
            have HF := Lib.hid (show T = false by rw [HT.out]; exact ort_hit hxn hyn (by rw [hz]; exact hfv.symm))
            clear hz hfv hh
            go_wp2
            go_ret
            exact ⟨ret_b HF.out.symm, HB.out⟩
        · obtain rfl : y = n := by omega
          have HFl2 := Lib.hid (show FlagsOf P bs (ovT y a b (x + 1)) from by rw [ovT_succ]; exact HFl.out)
          have HNd2 := Lib.hid (show (ovT y a b (x + 1)).Nodup from by rw [ovT_succ]; exact HNd.out)
          go_wp2
          go_roundw
          case rel => exact ⟨x + 1, bs, by omega, by go_num, HFl2, HNd2, HS, HE, HB⟩
          case measure => simp [intOf] <;> omega
    · obtain rfl : x = n := by omega
      have HF := Lib.hid (show T = true by rw [HT.out]; exact decide_eq_true HNd.out)
      go_wp2
      go_ret
      exact ⟨ret_b HF.out.symm, HB.out⟩

set_option maxRecDepth 100000 in
set_option maxHeartbeats 4000000 in
theorem l07Orthogonal_c (w : World) (A B : Option Addr) (n c d : Nat) (R S : Spine) (a b : List (List Int)) (hr : RdM w A c R a) (hs : RdM w B d S b) (hla : a.length = n) (hlb : b.length = n) (ha : sqB a = true) (hb : sqB b = true) :
    Calls Try.prog 30 #[.slice A n c, .slice B n d] w (PostV w (.bool (ortB n a b))) := by
  have h10 := (sqB_ent ha hla).1
  have hd1 : ((n : Int) != (n : Int)) = false := by simp
  have hn10 : n ≤ 10 := by omega
  have hn1 : 1 ≤ n := by omega
  have HNt := Lib.hid (ov_nat ha hb hla hlb)
  obtain ⟨P, hP⟩ : ∃ P, P = n * n := ⟨_, rfl⟩
  rw [← hP] at HNt
  have hP100 : P ≤ 10 * 10 := by rw [hP]; exact Nat.mul_le_mul hn10 hn10
  have hwP : IntKind.i64.wrap ((n : Int) * (n : Int)) = (P : Int) := by rw [← Int.natCast_mul, ← hP]; exact IntWalk.i64_in _ (by omega)
  have hmk := fun W : World => run_make_row' (P := Try.prog) 56 4 (.bool false) 1 Try.underlying56 infoB rfl .i64 .i64 P (by omega) (by omega) W
  have HMk := Lib.hid hmk
  have HMd := Lib.hid (fun W : World => OwnB.made W P (by unfold maxLen; omega) (Nat.le_refl W.heap.size))
  obtain ⟨T, hT⟩ : ∃ T, T = ortB n a b := ⟨_, rfl⟩
  rw [← hT]
  have HT := Lib.hid hT
  have HQa := Lib.hid (l06Ok_c w A n c R a hr hla)
  have HQb := Lib.hid (fun (W : World) (hb : Below w.heap.size w W) => l06Ok_c W B n d S b (hs.below hb) hlb)
  rw [ha] at HQa
  rw [hb] at HQb
  have HSp := Lib.hid (fun (W : World) (hbW : Below w.heap.size w W) => l07Over_c W A B n c d R S a b (hr.below hbW) (hs.below hbW) hla hlb ha hb)
  clear hr hs hla hlb ha hb hP hT h10 hmk
  go_enter Try.func30, Try.ntmps30
  go_wp2_with fail
  refine (HQa.out).mono ?_
  rintro e w3 ⟨rfl, hb3⟩
  have HQ2 := Lib.hid (HQb.out w3 hb3)
  go_wp2_with fail
  refine (HQ2.out).mono ?_
  rintro e w4 ⟨rfl, hb4⟩
  have hb34 := hb3.trans (hb4.mono hb3.size)
  have HQ3 := Lib.hid (HSp.out w4 hb34)
  have HB4 := Lib.hid hb34
  clear hb3 hb4 hb34
  go_wp2_with fail
  refine (HQ3.out).mono ?_
  rintro e w5 ⟨⟨A2, n2, c2, R2, rfl, hn2, ho2⟩, hb5⟩
  obtain rfl : n = n2 := by rw [length_sqTo] at hn2; exact hn2
  have HB5 := Lib.hid (HB4.out.trans (hb5.mono HB4.out.size))
  obtain ⟨w2, hw2⟩ : ∃ w2, w2 = w5.alloc (.cells (madeCells #[.bool false] P) 4) := ⟨_, rfl⟩
  have hoo := ho2.alloc (.cells (madeCells #[.bool false] P) 4)
  rw [← hw2] at hoo
  obtain ⟨g0, hg0⟩ : ∃ g, g = w5.heap.size := ⟨_, rfl⟩
  have HS2 := Lib.hid (show OwnB w2 g0 g0 P (List.replicate P false) from by rw [hw2, hg0]; exact HMd.out w5)
  have HB2 := Lib.hid (show Below w.heap.size w w2 from by rw [hw2]; exact HB5.out.alloc HB5.out.size _)
  have hg0' : w.heap.size ≤ g0 := by rw [hg0]; exact HB5.out.size
  obtain ⟨G, _, eG, _⟩ := ho2.sq_row (i := 0) (by omega) (by omega)
  have hGl := ho2.lt (show A2 = some ⟨G, 0, none⟩ from eG)
  subst eG
  have hG : g0 ≠ G := by omega
  have HRow := Lib.hid (show ∀ x, x < n → ∃ g' C, w2.cell? ⟨G, x, none⟩ = some (.slice (some ⟨g', 0, none⟩) n C) ∧ g0 ≠ g' ∧ ∀ j, j < n → w2.cell? ⟨g', j, none⟩ = some (.int .i64 (ovF n a b x j)) from fun x hx => by
    obtain ⟨g, g', eg, er, hlo, hgs, hg1, hg2⟩ := ho2.sq_row (i := x) hx (by omega)
    injection eg with eg
    injection eg with eg
    subst eg
    have hb6 : Below w5.heap.size w5 w2 := by rw [hw2]; exact below_boxed _ _
    exact ⟨g', _, (hb6.cell (p := ⟨G, x, none⟩) hGl.2).trans hg1, by omega, fun j hj => (hb6.cell (p := ⟨g', j, none⟩) hgs).trans (hg2 j hj).1⟩)
  have HW2 := Lib.hid hw2
  have HG0 := Lib.hid hg0
  have hmk := HMk.out
  clear hn2 ho2 hb5 hoo hGl hw2 hg0
  go_wp2
  clear hmk
  rw [← HW2.out, ← HG0.out]
  go_loopw [8, 9] (fun i _ wr => ∃ (x : Nat) (bs : List Bool), x ≤ n ∧ i = .int .i64 x ∧ Hid (FlagsOf P bs (ovT n a b x)) ∧ Hid ((ovT n a b x).Nodup) ∧ Hid (OwnB wr g0 g0 P bs) ∧ Hid (Exc g0 w2 wr) ∧ Hid (Below w.heap.size w wr)) (fun i _ _ => n - (intOf i).toNat)
  case atStart => exact ⟨0, _, Nat.zero_le _, rfl, Lib.hid (FlagsOf.zero P), Lib.hid (by simp [ovT]), HS2, Lib.hid (Exc.refl _ _), HB2⟩
  case round =>
    obtain ⟨x, bs, hx, rfl, HFl, HNd, HS, HE, HB⟩ := hrel
    by_cases hxn : x < n
    · obtain ⟨g', C, hc, hg', hent⟩ := HRow.out x hxn
      have hcr := (HE.out ⟨G, x, none⟩ (fun e => hG e.symm)).trans hc
      have HEn := Lib.hid hent
      have hx0 : (0 : Int) ≤ (x : Int) := by omega
      have hx2 : (x : Int) < (n : Int) := by omega
      have HFl0 := Lib.hid (show FlagsOf P bs (ovT n a b x ++ ovR n a b x 0) from by rw [show ovR n a b x 0 = [] from rfl, List.append_nil]; exact HFl.out)
      have HNd0 := Lib.hid (show (ovT n a b x ++ ovR n a b x 0).Nodup from by rw [show ovR n a b x 0 = [] from rfl, List.append_nil]; exact HNd.out)
      have HCr := Lib.hid (show w2.cell? ⟨G, x, none⟩ = some (.slice (some ⟨g', 0, none⟩) n C) from hc)
      clear hent hc
      go_wp2
      go_loopw [9] (fun i wr => ∃ (y : Nat) (bs : List Bool), y ≤ n ∧ i = .int .i64 y ∧ Hid (FlagsOf P bs (ovT n a b x ++ ovR n a b x y)) ∧ Hid ((ovT n a b x ++ ovR n a b x y).Nodup) ∧ Hid (OwnB wr g0 g0 P bs) ∧ Hid (Exc g0 w2 wr) ∧ Hid (Below w.heap.size w wr)) (fun i _ => n - (intOf i).toNat)
      case atStart => exact ⟨0, bs, Nat.zero_le _, rfl, HFl0, HNd0, HS, HE, HB⟩
      case round =>
        obtain ⟨y, bs, hy, rfl, HFl, HNd, HS, HE, HB⟩ := hrel
        by_cases hyn : y < n
        · obtain ⟨z, hzP, hz⟩ := HNt.out x y hxn hyn
          have hcy := (HE.out ⟨g', y, none⟩ (fun e => hg' e.symm)).trans (HEn.out y hyn)
          rw [hz] at hcy
          have hcr2 := (HE.out ⟨G, x, none⟩ (fun e => hG e.symm)).trans (show w2.cell? ⟨G, x, none⟩ = some (.slice (some ⟨g', 0, none⟩) n C) from HCr.out)
          have hfl := (HS.out.at_ hzP).1
          have hfr := (HS.out.at_ hzP).2
          have hfv := HFl.out.2 z hzP
          have hy0 : (0 : Int) ≤ (y : Int) := by omega
          have hy2 : (y : Int) < (n : Int) := by omega
          have hz0 : (0 : Int) ≤ (z : Int) := by omega
          have hz2 : (z : Int) < (P : Int) := by omega
          rcases hh : flag bs z with _ | _
          · rw [hh] at hfl hfv
            have HFl2 := Lib.hid (show FlagsOf P (bs.set z true) (ovT n a b x ++ ovR n a b x (y + 1)) from by rw [ovR_succ, ← List.append_assoc, hz]; exact HFl.out.snoc hzP)
            have HNd2 := Lib.hid (show (ovT n a b x ++ ovR n a b x (y + 1)).Nodup from ort_next HNd.out (by rw [hz]; exact hfv.symm))
            have HS5 := Lib.hid (HS.out.stored z true)
            have HE5 := Lib.hid (HE.out.store z (.bool true))
            have HB5 := Lib.hid (HB.out.setCell (p := ⟨g0, z, none⟩) hg0' (.bool true))
            clear hz hfv hh
            go_wp2
            go_roundw
            case rel => exact ⟨y + 1, bs.set z true, by omega, by go_num, HFl2, HNd2, HS5, HE5, HB5⟩
            case measure => simp [intOf] <;> omega
          · rw [hh] at hfl hfv
            have HF := Lib.hid (show T = false by rw [HT.out]; exact ort_hit hxn hyn (by rw [hz]; exact hfv.symm))
            clear hz hfv hh
            go_wp2
            go_ret
            exact ⟨ret_b HF.out.symm, HB.out⟩
        · obtain rfl : y = n := by omega
          have HFl2 := Lib.hid (show FlagsOf P bs (ovT y a b (x + 1)) from by rw [ovT_succ]; exact HFl.out)
          have HNd2 := Lib.hid (show (ovT y a b (x + 1)).Nodup from by rw [ovT_succ]; exact HNd.out)
          go_wp2
          go_roundw
          case rel => exact ⟨x + 1, bs, by omega, by go_num, HFl2, HNd2, HS, HE, HB⟩
          case measure => simp [intOf] <;> omega
    · obtain rfl : x = n := by omega
      have HF := Lib.hid (show T = true by rw [HT.out]; exact decide_eq_true HNd.out)
      go_wp2
      go_ret
      exact ⟨ret_b HF.out.symm, HB.out⟩
end Go.Proofs.Ythgbfgdnljgicaa
