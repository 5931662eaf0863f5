/-
  MolsOfPlane of the reference. Conditions: those of each theorem.
-/
import Derived.Test.YtcdbbcnoleilfaaMpP
import Derived.Test.YtcdbbcnoleilfaaPcS
import Derived.Test.YtcdbbcnoleilfaaThird
namespace Go.Proofs.Ytcdbbcnoleilfaa
open Go.RowKit
set_option linter.unusedVariables false
set_option linter.unusedSimpArgs false

def zeroQ (_ _ : Nat) : Int := 0
set_option maxHeartbeats 1000000 in
theorem l06ZeroQ_c (w : World) (a b : Nat) (ha : a ≤ 1048576) (hb : b ≤ 1048576) :
    Calls Try.prog 70 #[.int .i64 (a : Int), .int .i64 (b : Int)] w (PostM w (sqTo zeroQ b a)) := by
  have H0 := Lib.hid (OwnM.lit0 w (Nat.le_refl w.heap.size) (fun _ => (none, 0)))
  have hmk := fun W : World => run_make_row' (P := Try.prog) 52 2 (.int .i64 0) 8 Try.underlying52 infoI rfl .i64 .i64 b (by omega) (by omega) W
  go_enter Try.func70, Try.ntmps70
  go_wp2
  go_loopw [5, 6] (fun o i wr => ∃ (k : Nat) (A' : Option Addr) (c' : Nat) (R' : Spine), k ≤ a ∧ i = .int .i64 k ∧ o = .slice A' k c' ∧ Hid (OwnM wr w.heap.size A' c' R' (sqTo zeroQ b k)) ∧ Hid (Below w.heap.size w wr)) (fun _ i _ => a - (intOf i).toNat)
  case atStart => exact ⟨0, _, _, _, Nat.zero_le _, rfl, rfl, H0, Lib.hid ((Below.refl _ _).alloc (Nat.le_refl _) _)⟩
  case round =>
    obtain ⟨k, A', c', R', hk, rfl, rfl, HO, HB⟩ := hrel
    have hz1 := HB.out.size
    by_cases hlt : k < a
    · have hB1 : Below w.heap.size w ((wr.alloc (.cells (madeCells #[.int .i64 0] b) 2)).alloc (.cells #[.slice (some ⟨wr.heap.size, 0, none⟩) b b] 52)) := (HB.out.alloc hz1 _).alloc (by simp; omega) _
      have hi0 := OwnI.made wr b (by unfold maxLen; omega) (Nat.le_refl wr.heap.size)
      rw [show List.replicate b (0 : Int) = rowTo zeroQ k b by
        apply List.ext_getElem
        · rw [length_rowTo]; simp
        · intro j h1 h2
          have h3 : j < b := by simpa using h1
          simp [rowTo, zeroQ]] at hi0
      have HI1 := Lib.hid ((hi0.lower hz1).alloc (.cells #[.slice (some ⟨wr.heap.size, 0, none⟩) b b] 52))
      have HO1 := Lib.hid ((HO.out.alloc (.cells (madeCells #[.int .i64 0] b) 2)).alloc (.cells #[.slice (some ⟨wr.heap.size, 0, none⟩) b b] 52))
      have HAp := Lib.hid (later_apart HO.out hi0)
      have hsz : (wr.alloc (.cells (madeCells #[.int .i64 0] b) 2)).heap.size = wr.heap.size + 1 := by simp
      clear hi0
      go_wp2_with (at_builtin
                   refine wpM_append rfl _ _ rfl w.heap.size _ _ _ R' (sqTo zeroQ b k) (some ⟨wr.heap.size, 0, none⟩) b b (rowTo zeroQ k b) (wr.heap.size + 1) rfl rfl (length_sqTo zeroQ b k) (length_rowTo zeroQ k b) HO1.out HI1.out HAp.out (World.cell?_alloc_at _ _ _ _ hsz.symm) (by omega) (by simp; omega) ?_
                   intro A2 c2 R2 w2 ho2 hg2 ha2)
      have HB2 := Lib.hid (hB1.trans (below_blkM HO1.out hg2 (Nat.le_refl _) (by simp; omega)))
      have HO2 := Lib.hid ho2
      have HS := Lib.hid (sqTo_succ zeroQ b k)
      clear ho2 hg2 ha2 hB1
      go_wp2
      go_roundw
      case rel => exact ⟨k + 1, A2, c2, R2, by omega, by go_num, rfl, by rw [HS.out]; exact HO2, HB2⟩
      case measure => simp [intOf]; omega
    · obtain rfl : k = a := by omega
      have HL := Lib.hid (length_sqTo zeroQ b k)
      go_wp2
      go_ret
      exact ⟨⟨A', k, c', R', rfl, HL.out, HO.out⟩, HB.out⟩

set_option maxRecDepth 100000 in
set_option maxHeartbeats 16000000 in
theorem specMolsOfPlane_c (w : World) (p : Int) (hp : -9223372036854775808 ≤ p ∧ p ≤ 9223372036854775807) (A : Option Addr) (n c : Nat) (R : Spine) (xss : List (List Int)) (hr : RdM w A c R xss) (hn : xss.length = n) (hw : WfM xss) (hz : (n : Int) + (tot xss : Nat) ≤ 1048576) :
    Calls Try.prog 31 #[.agg #[.int .i64 p, .slice A n c]] w (PostLC w (moX p xss) (pcC p xss)) := by
  clear hw hz
  obtain ⟨wa, hwa⟩ : ∃ wa, wa = w.alloc (.cells #[.int .i64 p, .slice A n c] 31) := ⟨_, rfl⟩
  have hXa : BoxD wa w.heap.size p A n c := by rw [hwa]; exact BoxD.made _ _ _ _ _ _
  have hBa : Below w.heap.size w wa := by rw [hwa]; exact below_boxed _ _
  have hsa : w.heap.size + 1 ≤ wa.heap.size := by rw [hwa]; simp
  have HWa := Lib.hid hwa
  have HXa := Lib.hid hXa
  have HBa := Lib.hid hBa
  have hO := l10Ok_c wa w.heap.size A n c R xss p hXa (hr.below hBa) hn
  rw [hwa] at hO
  have HAf := Lib.hid (fun (W : World) (hb : Below w.heap.size w W) (hX : BoxD W w.heap.size p A n c) => l12Affine_c W w.heap.size p A n c R xss hX (hr.below hb) hn)
  rcases hd : dsgB p xss with _ | _
  · have h0 : pcC p xss = 1 := if_neg (by rw [hd]; simp)
    rw [show moX p xss = [] from if_neg (by omega), h0]
    rw [hd] at hO
    have HO := Lib.hid hO
    clear hO hwa hXa hBa hr hn hp hd h0
    go_enter Try.func31, Try.ntmps31
    go_wp2_with fail
    refine (HO.out).mono ?_
    rintro e w' ⟨rfl, q, rfl⟩
    rw [← HWa.out]
    have HB2 := Lib.hid (below_drewN HBa.out q)
    go_wp2
    go_ret2
    exact ⟨⟨none, 0, 0, fun _ => (none, 0, fun _ => (none, 0)), fun _ => (0, 0), rfl, rfl, OwnL.nil_ _ _ _ _ _⟩, HB2.out⟩
  rw [hd] at hO
  have HO := Lib.hid hO
  by_cases ha : affI p xss = 0
  · have h0 : pcC p xss = 6 := (if_pos hd).trans (if_pos ha)
    rw [show moX p xss = [] from if_neg (by omega), h0]
    rw [ha] at HAf
    clear hO hwa hXa hBa hr hn hp hd h0 ha
    go_enter Try.func31, Try.ntmps31
    go_wp2_with fail
    refine (HO.out).mono ?_
    clear HO
    rintro e w' ⟨rfl, q, rfl⟩
    rw [← HWa.out]
    have HX2 := Lib.hid (HXa.out.drewN q)
    have HB2 := Lib.hid (below_drewN HBa.out q)
    have hs2 : w.heap.size + 1 ≤ (wa.drewN q).heap.size := hsa
    generalize wa.drewN q = w2 at *
    go_wp2_with fail
    refine (HAf.out _ HB2.out HX2.out).mono ?_
    rintro e w3 ⟨rfl, hb3⟩
    have HB3 := Lib.hid (HB2.out.trans (hb3.mono HB2.out.size))
    clear hb3
    go_wp2
    go_ret2
    exact ⟨⟨none, 0, 0, fun _ => (none, 0, fun _ => (none, 0)), fun _ => (0, 0), rfl, rfl, OwnL.nil_ _ _ _ _ _⟩, HB3.out⟩
  have h0 : pcC p xss = 0 := (if_pos hd).trans (if_neg ha)
  obtain ⟨P, K, rfl, hD, hK, hI, hok, hmany, hPK, hK2, hK5, hRw, hX, hMo⟩ := mo_facts h0
  rw [hMo, h0]
  rw [hK] at HAf
  have HPc := Lib.hid (fun (W : World) (hb : Below w.heap.size w W) (hX : BoxD W w.heap.size (P : Int) A n c) => by have := l12Classes_c W w.heap.size P _ A n c R xss hX (hr.below hb) hn hD hI; rwa [← hn] at this)
  generalize clsTo P xss xss.length = C at *
  have HI := Lib.hid hI
  have HOk := Lib.hid hok
  have HRw := Lib.hid hRw
  have HMa := Lib.hid hmany
  have HR := Lib.hid hr
  have HN := Lib.hid hn
  have HLn := Lib.hid (fun (c : Nat) (hc : c < C.length) => hok.len hI hc)
  obtain ⟨K1, hK1⟩ : ∃ K1, K1 = K - 1 := ⟨_, rfl⟩
  rw [← hK1]
  have hK1a : K1 + 1 ≤ K := by omega
  have hK1b : K ≤ K1 + 1 := by omega
  have hK0 : ((K : Int) == 0) = false := by simp; omega
  have hKm : (K : Int) - 1 = (K1 : Int) := by omega
  have HKm := Lib.hid hKm
  have hPK' : (K : Int) * (K : Int) = (P : Int) := by rw [hPK]; push_cast; rfl
  have HPK := Lib.hid hPK'
  have hP32 : P ≤ 32 := by have := hD.1.2; omega
  clear hO hwa hXa hBa hr hn hp hd h0 hD hK hI hok hmany hPK hRw hX hMo hK1 ha hKm hPK'
  go_enter Try.func31, Try.ntmps31
  go_wp2_with fail
  refine (HO.out).mono ?_
  clear HO
  rintro e w' ⟨rfl, q, rfl⟩
  rw [← HWa.out]
  have HX2 := Lib.hid (HXa.out.drewN q)
  have HB2 := Lib.hid (below_drewN HBa.out q)
  have hs2 : w.heap.size + 1 ≤ (wa.drewN q).heap.size := hsa
  generalize wa.drewN q = w2 at *
  go_wp2_with fail
  refine (HAf.out _ HB2.out HX2.out).mono ?_
  rintro e w3 ⟨rfl, hb3⟩
  have HX3 := Lib.hid (HX2.out.below hb3)
  have HB3 := Lib.hid (HB2.out.trans (hb3.mono HB2.out.size))
  have hs3 : w.heap.size + 1 ≤ w3.heap.size := by have := hb3.size; omega
  clear hb3
  go_wp2_with fail
  refine (HPc.out _ HB3.out HX3.out).mono ?_
  rintro e w4 ⟨⟨A4, n4, c4, R4, rfl, hn4, ho4⟩, hb4⟩
  have HX4 := Lib.hid (HX3.out.below hb4)
  have HB4 := Lib.hid (HB3.out.trans (hb4.mono HB3.out.size))
  have HO4 := Lib.hid ho4
  have HN4 := Lib.hid hn4
  have HNk := Lib.hid (show n4 = K + 1 by rw [← hn4]; exact HMa.out)
  have hs4 : w.heap.size + 1 ≤ w4.heap.size := by have := hb4.size; omega
  obtain ⟨g4, eg4, _, hg4, _, _⟩ := ho4.at_ (k := 0) (by have := HNk.out; omega)
  subst eg4
  clear hb4 ho4 hn4
  have HL0 := Lib.hid (OwnL.lit0 w4 (Nat.le_refl w4.heap.size) (show w4.heap.size < (w4.alloc (.cells #[] 22)).heap.size by simp) (fun _ => (none, 0, fun _ => (none, 0))) (fun _ => (0, 0)))
  have HBr0 := Lib.hid ((Below.refl w4.heap.size w4).alloc (Nat.le_refl _) (.cells #[] 22))
  rw [HKm.out] at *
  go_wp2
  go_loopw [6, 7, 8, 9, 10, 12, 13] (fun o v _ _ _ _ _ wr => ∃ (k : Nat) (Al : Option Addr) (cl : Nat) (S : Spine3) (I : Nat → Nat × Nat), k ≤ K1 ∧ v = .int .i64 k ∧ o = .slice Al k cl ∧ Hid (OwnL wr w4.heap.size wr.heap.size Al cl S I (moL xss C K k)) ∧ Hid (Below w4.heap.size w4 wr)) (fun _ v _ _ _ _ _ _ => K1 - (intOf v).toNat)
  case atStart => exact ⟨0, _, _, _, _, Nat.zero_le _, rfl, rfl, HL0, HBr0⟩
  case round =>
    obtain ⟨k, Al, cl, S, I, hk, rfl, rfl, HO, HB⟩ := hrel
    have hsz := HB.out.size
    by_cases hkn : k < K1
    · have HZe := Lib.hid (show sqTo zeroQ K K = sqTo (mpS xss C (k + 2) 0) K K from HOk.out.mpS_zero HI.out HRw.out (k + 2))
      obtain ⟨wo, rfl⟩ : ∃ wo, wo = wr := ⟨_, rfl⟩
      go_wp2_with fail
      refine (l06ZeroQ_c wo K K (by omega) (by omega)).mono ?_
      rintro e w5 ⟨⟨A5, n5, c5, R5, rfl, hn5, ho5⟩, hb5⟩
      obtain rfl : n5 = K := by rw [← hn5, length_sqTo]
      obtain ⟨G, eG, _, hG, _, _⟩ := ho5.at_ (k := 0) (by rw [length_sqTo]; omega)
      subst eG
      have HO5 := Lib.hid (show OwnM w5 wo.heap.size (some ⟨G, 0, none⟩) c5 R5 (sqTo (mpS xss C (k + 2) 0) n5 n5) from by rw [← HZe.out]; exact ho5)
      have HB5 := Lib.hid hb5
      clear hb5 hn5 ho5
      have hpk : (n5 : Int) * (n5 : Int) = (P : Int) := HPK.out
      go_wp2
      go_loopw [9, 10, 12, 13] (fun v _ _ _ wr => ∃ (q : Nat), q ≤ P ∧ v = .int .i64 q ∧ Hid (OwnM wr wo.heap.size (some ⟨G, 0, none⟩) c5 R5 (sqTo (mpS xss C (k + 2) q) n5 n5)) ∧ Hid (Below wo.heap.size wo wr)) (fun v _ _ _ _ => P - (intOf v).toNat)
      case atStart => exact ⟨0, Nat.zero_le _, rfl, HO5, HB5⟩
      case round =>
        obtain ⟨q, hq, rfl, HOa, HBa2⟩ := hrel
        have hsa2 := HBa2.out.size
        by_cases hqP : q < P
        · have hcc : ∀ j, mqC k j < C.length := fun j => by rw [HN4.out, HNk.out]; unfold mqC; split <;> omega
          have HCc := Lib.hid hcc
          obtain ⟨ii, hii⟩ : ∃ ii : Nat → Nat, ∀ j, ii j < n5 ∧ lnB xss (cN C (mqC k j) (ii j)) q = true ∧ ∀ i, i < n5 → i ≠ ii j → lnB xss (cN C (mqC k j) i) q = false :=
            ⟨fun j => (HOk.out.on_k HI.out (hcc j) hqP).choose, fun j => (HOk.out.on_k HI.out (hcc j) hqP).choose_spec⟩
          have HII := Lib.hid hii
          obtain ⟨wq, rfl⟩ : ∃ wq, wq = wr := ⟨_, rfl⟩
          obtain ⟨wL, hwL⟩ : ∃ wL, wL = (wq.alloc (.cells #[] 2)).alloc (.cells #[.int .i64 0, .int .i64 1, .int .i64 ((k : Int) + 2)] 2) := ⟨_, rfl⟩
          have HE := Lib.hid (show OwnI wL wq.heap.size (some ⟨wq.heap.size, 0, none⟩) 0 (mqP ii 0) from by rw [hwL]; exact (OwnI.lit0 wq (Nat.le_refl _)).alloc _)
          have HBL := Lib.hid (show Below wq.heap.size wq wL from by rw [hwL]; exact ((Below.refl _ _).alloc (Nat.le_refl _) _).alloc (by simp) _)
          have HLit := Lib.hid (show ∀ j, j < 3 → wL.cell? ⟨wq.heap.size + 1, j, none⟩ = some (.int .i64 ((mqC k j : Nat) : Int)) from fun j hj => by
            rw [hwL]
            rcases (show j = 0 ∨ j = 1 ∨ j = 2 by omega) with rfl | rfl | rfl <;> simp [go_sem, mqC])
          have HSz := Lib.hid (show wq.heap.size + 2 ≤ wL.heap.size from by rw [hwL]; simp)
          have HAp := Lib.hid (show ∀ g, (some ⟨wq.heap.size, 0, none⟩ : Option Addr) = some ⟨g, 0, none⟩ → g ≠ wq.heap.size + 1 from fun g e => by injection e with e; injection e with e; omega)
          have HWL := Lib.hid hwL
          clear hcc hii hwL
          go_wp2
          rw [← HWL.out]
          go_loopw [10, 12, 13, 42] (fun a _ _ v wr => ∃ (j : Nat) (A6 : Option Addr) (c6 : Nat), j ≤ 3 ∧ v = .int .i64 j ∧ a = .slice A6 j c6 ∧ Hid (OwnI wr wq.heap.size A6 c6 (mqP ii j)) ∧ Hid (∀ g, A6 = some ⟨g, 0, none⟩ → g ≠ wq.heap.size + 1) ∧ Hid (∀ j, j < 3 → wr.cell? ⟨wq.heap.size + 1, j, none⟩ = some (.int .i64 ((mqC k j : Nat) : Int))) ∧ Hid (Below wq.heap.size wq wr) ∧ Hid (wq.heap.size + 2 ≤ wr.heap.size)) (fun _ _ _ v _ => 3 - (intOf v).toNat)
          case atStart => exact ⟨0, _, _, by omega, rfl, rfl, HE, HAp, HLit, HBL, HSz⟩
          case round =>
            obtain ⟨j, A6, c6, hj, rfl, rfl, HO6, HAp6, HLit6, HB6, HSz6⟩ := hrel
            by_cases hj3 : j < 3
            · have hlj := HLit6.out j hj3
              have hj0 : (0 : Int) ≤ (j : Int) := by omega
              have hj1 : (j : Int) < 3 := by omega
              obtain ⟨cj, hcj⟩ : ∃ cj, cj = mqC k j := ⟨_, rfl⟩
              have hcjC : cj < C.length := by rw [hcj]; exact HCc.out j
              have hcj8 : cj < n4 := by rw [← HN4.out]; exact hcjC
              have HII' := Lib.hid (HII.out j)
              rw [← hcj] at hlj HII'
              have HI0 := Lib.hid (show OwnI wr wq.heap.size A6 c6 (mqP ii j ++ atK (ii j) 0) from by unfold atK; rw [if_neg (by omega), List.append_nil]; exact HO6.out)
              have HL0 := Lib.hid (show (mqP ii j ++ atK (ii j) 0).length = j from by unfold atK; rw [if_neg (by omega), List.append_nil, mqP_len])
              obtain ⟨_, eg1, _, hg4', hcx, _⟩ := HO4.out.at_ hcjC
              injection eg1 with eg1
              injection eg1 with eg1
              subst eg1
              rw [HLn.out _ hcjC] at hcx
              have HCx := Lib.hid hcx
              have HRc := Lib.hid (HO4.out.rows cj hcjC).rd
              have HHc := Lib.hid hcjC
              clear hcj hcx
              go_wp2
              clear hlj
              go_loopw [10, 13] (fun a v wr => ∃ (i s : Nat) (A7 : Option Addr) (c7 : Nat), i ≤ n5 ∧ v = .int .i64 i ∧ a = .slice A7 s c7 ∧ s ≤ 4 ∧ Hid ((mqP ii j ++ atK (ii j) i).length = s) ∧ Hid (OwnI wr wq.heap.size A7 c7 (mqP ii j ++ atK (ii j) i)) ∧ Hid (∀ g, A7 = some ⟨g, 0, none⟩ → g ≠ wq.heap.size + 1) ∧ Hid (∀ j, j < 3 → wr.cell? ⟨wq.heap.size + 1, j, none⟩ = some (.int .i64 ((mqC k j : Nat) : Int))) ∧ Hid (Below wq.heap.size wq wr) ∧ Hid (wq.heap.size + 2 ≤ wr.heap.size)) (fun _ v _ => n5 - (intOf v).toNat)
              case atStart => exact ⟨0, j, _, _, Nat.zero_le _, rfl, rfl, by omega, HL0, HI0, HAp6, HLit6, HB6, HSz6⟩
              case round =>
                obtain ⟨i, s, A7, c7, hi, rfl, rfl, hs4', HS7, HO7, HAp7, HLit7, HB7, HSz7⟩ := hrel
                have hsz7 := HB7.out.size
                by_cases hin : i < n5
                · have HBw := Lib.hid (HB.out.trans (HBa2.out.trans (HB7.out.mono hsa2) |>.mono hsz))
                  have hccr := (HBw.out.cell (p := ⟨g4, cj, none⟩) hg4).trans HCx.out
                  have hm := HOk.out.cell HI.out HHc.out hin
                  obtain ⟨b, off, e, hb, hcl⟩ := HRc.out.at_ i (by rw [HLn.out _ HHc.out]; exact hin)
                  rw [hm.1] at hcl
                  have hclr := (HBw.out.cell (p := ⟨b, off + i, none⟩) hb).trans hcl
                  rw [e] at hccr
                  have hkx : cN C cj i < xss.length := hm.2
                  have hHit := HII'.out
                  have hLb : lnB xss (cN C cj i) q = hasB (row xss (cN C cj i)) (q : Int) := rfl
                  have HEv := Lib.hid (show hasB (row xss (cN C cj i)) (q : Int) = true → i = ii j from fun e => by
                    by_cases e2 : i = ii j
                    · exact e2
                    · have := hHit.2.2 i hin e2; rw [hLb, e] at this; cases this)
                  have HEn := Lib.hid (show hasB (row xss (cN C cj i)) (q : Int) = false → i ≠ ii j from fun e e2 => by
                    have := hHit.2.1; rw [← e2, hLb, e] at this; cases this)
                  clear hHit hLb
                  obtain ⟨kk, hkk⟩ : ∃ kk, kk = cN C cj i := ⟨_, rfl⟩
                  rw [← hkk] at hclr hkx HEv HEn
                  obtain ⟨b3, off3, e3, hb3, hcl3⟩ := HR.out.open2 (by omega)
                  have HBww := Lib.hid (HB4.out.trans (HBw.out.mono HB4.out.size))
                  have hckr := (HBww.out.cell (p := ⟨b3, off3 + kk, none⟩) hb3).trans (hcl3 kk hkx)
                  have hx7 := HX4.out.below HBw.out
                  have hc1 := hx7.c1
                  rw [e3] at hc1
                  have hkn : kk < n := by have := HN.out; omega
                  have hix0 : (0 : Int) ≤ (kk : Int) := by omega
                  have hix1 : (kk : Int) < (n : Int) := by omega
                  have hi0 : (0 : Int) ≤ (i : Int) := by omega
                  have hi1 : (i : Int) < (n5 : Int) := by omega
                  have hc00 : (0 : Int) ≤ (cj : Int) := by omega
                  have hc01 : (cj : Int) < (n4 : Int) := by omega
                  have HHas := Lib.hid (fun (q' : Nat) => has_c (wr.drewN q') (R kk).1 (row xss kk).length (R kk).2 (row xss kk) (q : Int) (((HR.out.below HBww.out).rows kk hkx).drewN q') rfl)
                  clear hcl hcl3 hm hkk hx7 e e3
                  generalize row xss kk = rx at *
                  rcases hv : hasB rx (q : Int) with _ | _
                  · rw [hv] at HHas HEn
                    have HNe := Lib.hid (HEn.out rfl)
                    have HSt := Lib.hid (atK_miss (k := i) (HEn.out rfl))
                    clear hv HEv HEn
                    go_wp2
                    go_quiet ((go_at_call 36; first | (with_reducible exact quiet_drN (HHas.out _)) | (with_reducible exact quiet_dr (HHas.out _)) | (with_reducible exact quiet_w2 (HHas.out _))))
                    have HO8 := Lib.hid (show OwnI (wr.drewN nq) wq.heap.size A7 c7 (mqP ii j ++ atK (ii j) (i + 1)) from by rw [HSt.out]; exact HO7.out.drewN nq)
                    have HS8 := Lib.hid (show (mqP ii j ++ atK (ii j) (i + 1)).length = s from by rw [HSt.out]; exact HS7.out)
                    have HLit8 := Lib.hid (show ∀ j, j < 3 → (wr.drewN nq).cell? ⟨wq.heap.size + 1, j, none⟩ = some (.int .i64 ((mqC k j : Nat) : Int)) from HLit7.out)
                    have HB8 := Lib.hid (below_drewN HB7.out nq)
                    have HSz8 := Lib.hid (show wq.heap.size + 2 ≤ (wr.drewN nq).heap.size from HSz7.out)
                    generalize wr.drewN nq = w8 at *
                    clear hccr hclr hckr hc1
                    go_wp2
                    go_roundw
                    case rel => exact ⟨i + 1, s, _, _, by omega, by go_num, rfl, hs4', HS8, HO8, HAp7, HLit8, HB8, HSz8⟩
                    case measure => simp [intOf]; omega
                  · rw [hv] at HHas HEv
                    obtain hie := HEv.out rfl
                    have HIe := Lib.hid hie
                    have hsj : j = s := by rw [← HS7.out, hie, (atK_hit (ii j)).1, List.append_nil, mqP_len]
                    subst hsj
                    clear hv HEv HEn hie
                    go_wp2
                    go_quiet ((go_at_call 36; first | (with_reducible exact quiet_drN (HHas.out _)) | (with_reducible exact quiet_dr (HHas.out _)) | (with_reducible exact quiet_w2 (HHas.out _))))
                    have HO8 := Lib.hid (HO7.out.drewN nq)
                    have HLit8 := Lib.hid (show ∀ j, j < 3 → (wr.drewN nq).cell? ⟨wq.heap.size + 1, j, none⟩ = some (.int .i64 ((mqC k j : Nat) : Int)) from HLit7.out)
                    have HB8 := Lib.hid (below_drewN HB7.out nq)
                    have HSz8 := Lib.hid (show wq.heap.size + 2 ≤ (wr.drewN nq).heap.size from HSz7.out)
                    have hsz8 : wq.heap.size ≤ (wr.drewN nq).heap.size := hsz7
                    generalize wr.drewN nq = w8 at *
                    clear hccr hclr hckr hc1
                    have HO8a := Lib.hid (HO8.out.alloc (.cells #[.int .i64 (i : Int)] 2))
                    go_wp2_with (at_builtin; refine wpI_append rfl _ _ rfl wq.heap.size _ _ _ (mqP ii j ++ atK (ii j) i) (i : Int) w8.heap.size rfl rfl HS7.out HO8a.out (World.cell?_alloc_at _ _ _ _ rfl) (by omega) (by simp; omega) ?_; intro A9 c9 w9 ho9 hg9 ha9)
                    have HB9 := Lib.hid (show Below wq.heap.size wq w9 from (HB8.out.alloc hsz8 (.cells #[.int .i64 (i : Int)] 2)).trans (below_blk HO8a.out hg9 (Nat.le_refl _) (by simp; omega)))
                    have HLit9 := Lib.hid (show ∀ j, j < 3 → w9.cell? ⟨wq.heap.size + 1, j, none⟩ = some (.int .i64 ((mqC k j : Nat) : Int)) from fun j' hj' => by
                      have h1 := HLit8.out j' hj'
                      have h2 := HSz8.out
                      refine hg9.cell (a := ⟨wq.heap.size + 1, j', none⟩) ((Below.cell (p := ⟨wq.heap.size + 1, j', none⟩) ((Below.refl w8.heap.size w8).alloc (Nat.le_refl _) _) (by show wq.heap.size + 1 < w8.heap.size; omega)).trans h1) ?_
                      intro e2
                      rcases HO7.out.form with ⟨e3, _⟩ | ⟨g', e3, _⟩
                      · rw [e3] at e2; simp [blk] at e2
                      · rw [e3, blk_some] at e2; injection e2 with e2; exact HAp7.out g' e3 e2.symm)
                    have HAp9 := Lib.hid (show ∀ g, A9 = some ⟨g, 0, none⟩ → g ≠ wq.heap.size + 1 from fun g e => by
                      rw [e, blk_some] at ha9
                      rcases ha9 with h | h
                      · rcases HO7.out.form with ⟨e3, _⟩ | ⟨g', e3, _⟩
                        · rw [e3] at h; simp [blk] at h
                        · rw [e3, blk_some] at h; injection h with h; subst h; exact HAp7.out g e3
                      · injection h with h; have := HSz8.out; simp at h; omega)
                    have HSz9 := Lib.hid (show wq.heap.size + 2 ≤ w9.heap.size from by have h1 := hg9.size; have h2 := HSz8.out; simp at h1; omega)
                    have HO9 := Lib.hid (show OwnI w9 wq.heap.size A9 c9 (mqP ii j ++ atK (ii j) (i + 1)) from by rw [mqP_hit' HIe.out]; exact ho9)
                    have HS9 := Lib.hid (show (mqP ii j ++ atK (ii j) (i + 1)).length = j + 1 from by rw [mqP_hit' HIe.out, List.length_append, HS7.out]; rfl)
                    clear ho9 hg9 ha9
                    go_wp2
                    go_roundw
                    case rel => exact ⟨i + 1, j + 1, _, _, by omega, by go_num, rfl, by omega, HS9, HO9, HAp9, HLit9, HB9, HSz9⟩
                    case measure => simp [intOf]; omega
                · obtain rfl : i = n5 := by omega
                  have HAl := Lib.hid (mqP_all ii HII'.out.1)
                  have HO8 := Lib.hid (show OwnI wr wq.heap.size A7 c7 (mqP ii (j + 1)) from by rw [← HAl.out]; exact HO7.out)
                  have hsj : s = j + 1 := by rw [← HS7.out, HAl.out, mqP_len]
                  subst hsj
                  go_wp2
                  go_roundw
                  case rel => exact ⟨j + 1, _, _, by omega, by go_num, rfl, HO8, HAp7, HLit7, HB7, HSz7⟩
                  case measure => simp [intOf]; omega
            · obtain rfl : j = 3 := by omega
              have HO3 := Lib.hid (HOa.out.below HB6.out)
              obtain ⟨hx, h0, _⟩ := HII.out 0
              obtain ⟨hy, h1, _⟩ := HII.out 1
              obtain ⟨hz, h2, _⟩ := HII.out 2
              obtain ⟨ga, eA, _, _, ha0, _⟩ := HO6.out.at_ (k := 0) (by rw [mqP_len]; omega)
              obtain ⟨_, eA1, _, _, ha1, _⟩ := HO6.out.at_ (k := 1) (by rw [mqP_len]; omega)
              obtain ⟨_, eA2, _, _, ha2, _⟩ := HO6.out.at_ (k := 2) (by rw [mqP_len]; omega)
              rw [eA] at eA1 eA2
              injection eA1 with eA1
              injection eA1 with eA1
              injection eA2 with eA2
              injection eA2 with eA2
              subst eA eA1 eA2
              rw [show nth (mqP ii 3) 0 = (ii 0 : Int) from rfl] at ha0
              rw [show nth (mqP ii 3) 1 = (ii 1 : Int) from rfl] at ha1
              rw [show nth (mqP ii 3) 2 = (ii 2 : Int) from rfl] at ha2
              have hstep := HOk.out.mpS_step HI.out HRw.out (c := k + 2) (HCc.out 2) hx hy hz hqP h0 h1 h2
              generalize ii 0 = x at *
              generalize ii 1 = y at *
              generalize ii 2 = z at *
              obtain ⟨g, g', eg, er, hlo, hgs, hg1, hg2⟩ := HO3.out.sq_row (i := x) hx (by omega)
              obtain ⟨hq1, hf1⟩ := hg2 y hy
              have hst := HO3.out.sq_store hx hy er (z : Int)
              rw [hstep] at hst
              have HO7 := Lib.hid hst
              have HB7 := Lib.hid ((HBa2.out.trans (HB6.out.mono hsa2)).setCell (p := ⟨g', y, none⟩) hlo (.int .i64 (z : Int)))
              injection eg with eg
              injection eg with eg
              subst eg
              have hx0 : (0 : Int) ≤ (x : Int) := by omega
              have hx1 : (x : Int) < (n5 : Int) := by omega
              have hy0 : (0 : Int) ≤ (y : Int) := by omega
              have hy1 : (y : Int) < (n5 : Int) := by omega
              clear hst hstep h0 h1 h2 hg2 er hz
              go_wp2
              go_region
              all_goals go_wp2
              all_goals go_roundw
              case rel => first | exact ⟨q + 1, by omega, by go_num, HO7, HB7⟩ | exact ⟨q + 1, by omega, by go_num, Lib.hid HO7.out.drew, Lib.hid HB7.out.drew⟩ | exact ⟨q + 1, by omega, by go_num, Lib.hid (HO7.out.drewN _), Lib.hid (below_drewN HB7.out _)⟩
              case measure => simp [intOf]; omega
        · obtain rfl : q = P := by omega
          have HO7 := Lib.hid (show OwnM wr wo.heap.size (some ⟨G, 0, none⟩) c5 R5 (sqTo (mpF xss C (k + 2)) n5 n5) from by rw [← HOk.out.mpS_all HI.out HRw.out (k + 2)]; exact HOa.out)
          have HB9 := Lib.hid ((HB.out.trans (HBa2.out.mono hsz)).alloc (Nat.le_trans hsz hsa2) (.cells #[.slice (some ⟨G, 0, none⟩) n5 c5] 22))
          have HL9 := Lib.hid ((HO.out.step (w' := wr) (fun j _ h2 => HBa2.out.block j h2)).step (w' := wr.alloc (.cells #[.slice (some ⟨G, 0, none⟩) n5 c5] 22)) (fun j _ h2 => Below.heap_alloc wr _ j (by omega)))
          have HI9 := Lib.hid (HO7.out.in_.step (w' := wr.alloc (.cells #[.slice (some ⟨G, 0, none⟩) n5 c5] 22)) (fun j _ h2 => Below.heap_alloc wr _ j h2))
          have hpk := HPK.out
          go_wp2_with (at_builtin; refine wpL_append rfl _ _ rfl w4.heap.size wo.heap.size _ _ _ S I (moL xss C n5 k) (some ⟨G, 0, none⟩) n5 c5 R5 (sqTo (mpF xss C (k + 2)) n5 n5) wo.heap.size wr.heap.size wr.heap.size rfl rfl (moL_len xss C n5 k) (length_sqTo _ _ _) HL9.out HI9.out (by omega) (Nat.le_refl _) (by omega) (by simp) (World.cell?_alloc_at _ _ _ _ rfl) (by omega) (by simp; omega) ?_; intro A10 c10 S10 I10 w10 ho10 hg10)
          have HB10 := Lib.hid (HB9.out.trans (Below.of_grown hg10 (by simp; omega) (fun g eg => by
            rcases HL9.out.form with ⟨e1, _⟩ | ⟨g1, e1, hl1, _⟩
            · rw [e1] at eg; simp [blk] at eg
            · rw [e1, blk_some] at eg; injection eg with eg; omega)))
          have HO10 := Lib.hid (show OwnL w10 w4.heap.size w10.heap.size A10 c10 S10 I10 (moL xss C n5 (k + 1)) from by rw [moL_succ]; exact ho10)
          clear ho10 hg10
          go_wp2
          go_roundw
          case rel => exact ⟨k + 1, _, _, _, _, by omega, by go_num, rfl, HO10, HB10⟩
          case measure => simp [intOf]; omega
    · obtain rfl : k = K1 := by omega
      have HLf := Lib.hid (moL_len xss C K k)
      have HBf := Lib.hid (HB4.out.trans (HB.out.mono HB4.out.size))
      have hlo : w.heap.size ≤ w4.heap.size := HB4.out.size
      go_wp2
      go_ret2
      exact ⟨⟨Al, k, cl, S, I, rfl, HLf.out, HO.out.lower hlo⟩, HBf.out⟩
end Go.Proofs.Ytcdbbcnoleilfaa
