/-
  Lists of orthogonal squares: ValidMols of the program, l07Ok of the reference. Conditions: those of each theorem.
-/
import Derived.Test.YthgbfgdnljgicaaPomB
import Derived.Test.YthgbfgdnljgicaaSqr2
namespace Go.Proofs.Ythgbfgdnljgicaa
open Go.RowKit
set_option linter.unusedVariables false
set_option linter.unusedSimpArgs false

theorem sizeL_c (w : World) (A : Option Addr) (n c : Nat) : Calls Try.prog 19 #[.slice A n c] w fun e w' => e = .returned (.int .i64 (n : Int)) ∧ w = w' := by
  go_enter Try.func19, Try.ntmps19
  go_wp2
  go_ret
  exact ⟨rfl, rfl⟩
theorem keepC2 {lo : Nat} {w w' : World} {p q : Addr} {u v : Option Value} (hb : Below lo w w') (hp : p.block < lo) (hq : q.block < lo) (h : w.cell? p = u ∧ w.cell? q = v) : w'.cell? p = u ∧ w'.cell? q = v :=
  ⟨(hb.cell hp).trans h.1, (hb.cell hq).trans h.2⟩

set_option maxRecDepth 100000 in
set_option maxHeartbeats 8000000 in
theorem ValidMols_c (w : World) (A : Option Addr) (n c : Nat) (S : Spine3) (x : List (List (List Int))) (hr : RdL w A c S x) (hn : x.length = n) (hz : n ≤ 1048576) (hz2 : ∀ i, i < n → ∀ k, k < (pln x i).length → (row (pln x i) k).length ≤ 1048576) :
    Calls Try.prog 17 #[.slice A n c] w (PostV w (.bool (molB x))) := by
  obtain ⟨T, hT⟩ : ∃ T, T = molB x := ⟨_, rfl⟩
  rw [← hT]
  have HIn := Lib.hid (fun W => within_c (n : Int) 1 10 W)
  have hnc : n ≤ c := by have := hr.le; omega
  have HT := Lib.hid hT
  have HR := Lib.hid hr
  have HN := Lib.hid hn
  have HZ2 := Lib.hid hz2
  clear hr hn hT hz2
  go_enter Try.func17, Try.ntmps17
  go_wp2
  go_loopw [9] (fun i wr => ∃ k : Nat, k ≤ n ∧ i = .int .i64 k ∧ Hid (∀ i, i < k → molAt x i i) ∧ Hid (Below w.heap.size w wr)) (fun i _ => n - (intOf i).toNat)
  case atStart => exact ⟨0, Nat.zero_le _, rfl, Lib.hid (fun i hi => absurd hi (by omega)), Lib.hid (Below.refl _ _)⟩
  case round =>
    obtain ⟨k, hk, rfl, HM, HB⟩ := hrel
    by_cases hkn : k < n
    · have hkx : k < x.length := by rw [HN.out]; exact hkn
      obtain ⟨b, off, e, hb, hc⟩ := HR.out.at_ k hkx
      subst e
      have hcc := (HB.out.cell (p := ⟨b, off + k, none⟩) hb).trans hc
      have hk0 : (0 : Int) ≤ (k : Int) := by omega
      have hk2 : (k : Int) < (n : Int) := by omega
      have hkc : k ≤ c := by omega
      have hkc2 : (k : Int) ≤ (c : Int) := by omega
      have hVS := ValidSquare_c wr (S k).1 (pln x k).length (S k).2.1 (S k).2.2 (pln x k) ((HR.out.rows k hkx).below HB.out) rfl (HZ2.out k hkn)
      rcases hs : sqB (pln x k) with _ | _
      · rw [hs] at hVS
        have HV := Lib.hid hVS
        have HF := Lib.hid (show T = false by
          rw [HT.out]
          refine decide_eq_false fun h => ?_
          have := (h.2 k hkx).1
          rw [hs] at this; cases this)
        clear hVS hs hc
        go_wp2_with fail
        refine (HV.out).mono ?_
        rintro e w2 ⟨rfl, hb2⟩
        have HB2 := Lib.hid (HB.out.trans (hb2.mono HB.out.size))
        clear hb2
        go_wp2
        go_ret
        exact ⟨ret_b HF.out.symm, HB2.out⟩
      rw [hs] at hVS
      have HV := Lib.hid hVS
      have HSq := Lib.hid hs
      obtain ⟨l, hl⟩ : ∃ l, l = (pln x k).length := ⟨_, rfl⟩
      rw [← hl] at hcc HV
      have HL := Lib.hid hl
      clear hVS hs hc hl
      go_wp2_with fail
      refine (HV.out).mono ?_
      rintro e w2 ⟨rfl, hb2⟩
      have HB2 := Lib.hid (HB.out.trans (hb2.mono HB.out.size))
      clear hb2 hcc
      go_wp2
      go_loopw [21] (fun i wr => ∃ j : Nat, j ≤ k ∧ i = .int .i64 j ∧ Hid (molAt x k j) ∧ Hid (Below w.heap.size w wr)) (fun i _ => k - (intOf i).toNat)
      case atStart => exact ⟨0, Nat.zero_le _, rfl, Lib.hid ⟨HSq.out, fun j hj => absurd hj (by omega)⟩, HB2⟩
      case round =>
        obtain ⟨j, hj, rfl, HA, HB3⟩ := hrel
        by_cases hjk : j < k
        · have hjx : j < x.length := by omega
          obtain ⟨b', off', e, _, hcj⟩ := HR.out.at_ j hjx
          injection e with e
          injection e with e1 e2
          subst e1 e2
          have hcc := (HB3.out.cell (p := ⟨b, off + j, none⟩) hb).trans hcj
          have hj0 : (0 : Int) ≤ (j : Int) := by omega
          have hj2 : (j : Int) < (k : Int) := by omega
          have hO := orthogonal_c wr (S k).1 (S j).1 (pln x k).length (pln x j).length (S k).2.1 (S j).2.1 (S k).2.2 (S j).2.2 (pln x k) (pln x j) ((HR.out.rows k hkx).below HB3.out) ((HR.out.rows j hjx).below HB3.out) rfl rfl HSq.out (HM.out j hjk).1
          obtain ⟨r, hrr⟩ : ∃ r, r = (decide ((pln x k).length = (pln x j).length) && ortB (pln x k).length (pln x k) (pln x j)) := ⟨_, rfl⟩
          rw [← hrr, ← HL.out] at hO
          have HO := Lib.hid hO
          clear hO hcj
          rcases r with _ | _
          · have HF := Lib.hid (show T = false by
              rw [HT.out]
              refine decide_eq_false fun h => ?_
              have := (h.2 k hkx).2 j hjk
              rw [decide_eq_true this.1.symm, this.2] at hrr
              cases hrr)
            clear hrr
            go_wp2_with fail
            refine (HO.out).mono ?_
            rintro e w5 ⟨rfl, hb5⟩
            have HB5 := Lib.hid (HB3.out.trans (hb5.mono HB3.out.size))
            clear hb5
            go_wp2
            go_ret
            exact ⟨ret_b HF.out.symm, HB5.out⟩
          · have HA2 := Lib.hid (show molAt x k (j + 1) from ⟨HSq.out, fun i hi => by
              by_cases e : i = j
              · subst e
                have h2 := hrr.symm
                rw [Bool.and_eq_true, decide_eq_true_eq] at h2
                exact ⟨h2.1.symm, h2.2⟩
              · exact HA.out.2 i (by omega)⟩)
            clear hrr
            go_wp2_with fail
            refine (HO.out).mono ?_
            rintro e w5 ⟨rfl, hb5⟩
            have HB5 := Lib.hid (HB3.out.trans (hb5.mono HB3.out.size))
            clear hb5
            go_wp2
            go_roundw
            case rel => exact ⟨j + 1, by omega, by go_num, HA2, HB5⟩
            case measure => simp [intOf] <;> omega
        · obtain rfl : j = k := by omega
          have HM2 := Lib.hid (show ∀ i, i < j + 1 → molAt x i i from fun i hi => by
            by_cases e : i = j
            · subst e; exact HA.out
            · exact HM.out i (by omega))
          go_wp2
          go_roundw
          case rel => exact ⟨j + 1, by omega, by go_num, HM2, HB3⟩
          case measure => simp [intOf] <;> omega
    · obtain rfl : k = n := by omega
      have HF := Lib.hid (show T = inB (k : Int) 1 10 by
        rw [HT.out]
        unfold molB
        rcases hi : inB (k : Int) 1 10 with _ | _
        · have := inB_false.1 hi
          exact decide_eq_false fun h => this (by have := HN.out; omega)
        · have := inB_true.1 hi
          exact decide_eq_true ⟨by have := HN.out; omega, by rw [HN.out]; exact HM.out⟩)
      go_wp2_with fail
      refine (sizeL_c _ _ _ _).mono ?_
      rintro e w' ⟨rfl, rfl⟩
      go_wp2_with fail
      refine (HIn.out _).mono ?_
      rintro e w' ⟨rfl, rfl⟩
      go_wp2
      go_ret
      exact ⟨ret_b HF.out.symm, HB.out⟩

set_option maxRecDepth 100000 in
set_option maxHeartbeats 8000000 in
theorem l07Ok_c (w : World) (A : Option Addr) (n c : Nat) (S : Spine3) (x : List (List (List Int))) (hr : RdL w A c S x) (hn : x.length = n) (hz : n ≤ 1048576) (hz2 : ∀ i, i < n → (pln x i).length ≤ 1048576) :
    Calls Try.prog 14 #[.slice A n c] w (PostV w (.bool (molB x))) := by
  obtain ⟨T, hT⟩ : ∃ T, T = molB x := ⟨_, rfl⟩
  rw [← hT]
  have HT := Lib.hid hT
  have HR := Lib.hid hr
  have HN := Lib.hid hn
  have HZ2 := Lib.hid hz2
  clear hr hn hT hz2
  by_cases h1 : n < 1
  · have hd : decide ((n : Int) < 1) = true := by simp; omega
    have hd2 : (n : Int) < 1 := by omega
    have HF := Lib.hid (show T = false by rw [HT.out]; exact decide_eq_false (fun h => by have := HN.out; omega))
    clear h1
    go_enter Try.func14, Try.ntmps14
    go_wp2
    go_ret
    exact ⟨ret_b HF.out.symm, Below.refl _ _⟩
  have hd : decide ((n : Int) < 1) = false := by simp; omega
  by_cases h10 : n ≤ 10
  rotate_left
  · have hd3 : decide ((10 : Int) < (n : Int)) = true := by simp; omega
    have hd2 : (10 : Int) < (n : Int) := by omega
    have HF := Lib.hid (show T = false by rw [HT.out]; exact decide_eq_false (fun h => by have := HN.out; omega))
    clear h1 h10
    go_enter Try.func14, Try.ntmps14
    go_wp2
    go_ret
    exact ⟨ret_b HF.out.symm, Below.refl _ _⟩
  have hd3 : decide ((10 : Int) < (n : Int)) = false := by simp; omega
  obtain ⟨b, off, e, hb, hc0⟩ := HR.out.at_ 0 (by rw [HN.out]; omega)
  subst e
  rw [Nat.add_zero] at hc0
  obtain ⟨l0, hl0⟩ : ∃ l, l = (pln x 0).length := ⟨_, rfl⟩
  rw [← hl0] at hc0
  have hl0z : l0 ≤ 1048576 := by rw [hl0]; exact HZ2.out 0 (by omega)
  have HL0 := Lib.hid hl0
  have HC0 := Lib.hid hc0
  clear hl0 hc0
  go_enter Try.func14, Try.ntmps14
  go_wp2
  go_loopw [3, 4] (fun i _ wr => ∃ k : Nat, k ≤ n ∧ i = .int .i64 k ∧ Hid (∀ i, i < k → molAt x i i) ∧ Hid (Below w.heap.size w wr)) (fun i _ _ => n - (intOf i).toNat)
  case atStart => exact ⟨0, Nat.zero_le _, rfl, Lib.hid (fun i hi => absurd hi (by omega)), Lib.hid (Below.refl _ _)⟩
  case round =>
    obtain ⟨k, hk, rfl, HM, HB⟩ := hrel
    by_cases hkn : k < n
    · have hkx : k < x.length := by rw [HN.out]; exact hkn
      obtain ⟨b', off', e, _, hc⟩ := HR.out.at_ k hkx
      injection e with e
      injection e with e1 e2
      subst e1 e2
      have hsz := HB.out.size
      have HBd := Lib.hid (show Below w.heap.size w wr.drew from HB.out.drew)
      have hbd : b < wr.drew.heap.size := by show b < wr.heap.size; omega
      have hS := keepC2 (p := ⟨b, off + k, none⟩) (q := ⟨b, off, none⟩) HBd.out hb hb ⟨hc, HC0.out⟩
      have hk0 : (0 : Int) ≤ (k : Int) := by omega
      have hk2 : (k : Int) < (n : Int) := by omega
      have hn0 : (0 : Int) < (n : Int) := by omega
      have hnn : 0 < n := by omega
      have hlz := HZ2.out k hkn
      have hVS := fun (W : World) (hbW : Below w.heap.size w W) => l06Ok_c W (S k).1 (pln x k).length (S k).2.1 (S k).2.2 (pln x k) ((HR.out.rows k hkx).below hbW) rfl
      have HPl := Lib.hid (show (pln x k).length = (pln x k).length from rfl)
      obtain ⟨l, hl⟩ : ∃ l, l = (pln x k).length := ⟨_, rfl⟩
      rw [← hl] at hS hVS hlz
      have HL := Lib.hid hl
      clear hc hl HPl
      rcases hs : sqB (pln x k) with _ | _
      · rw [hs] at hVS
        have HV := Lib.hid hVS
        have HF := Lib.hid (show T = false by
          rw [HT.out]
          refine decide_eq_false fun h => ?_
          have := (h.2 k hkx).1
          rw [hs] at this; cases this)
        clear hVS hs
        go_wp2
        refine wp_region_noPanic ?_
        refine wp_region_held_drew (S := fun w' => w'.cell? ⟨b, off + k, none⟩ = some (.slice (S k).1 l (S k).2.1) ∧ w'.cell? ⟨b, off, none⟩ = some (.slice (S 0).1 l0 (S 0).2.1)) (by kernel_rfl) hS (fun hHeld => ?_)
        refine wpAnyH_take (i := 0) (v := ?_) rfl (by kernel_rfl) (by kernel_rfl) (by kernel_rfl) (fun _ _ _ h => h) (Or.inl ⟨by rfl, ?_⟩) hHeld ?_
        rotate_left
        · (intro w hSw; (try dsimp only at hSw); (go_simp <;> with_reducible rfl))
        try simp only [Act.put, List.getElem_toArray, List.getElem_cons_succ, List.getElem_cons_zero, List.setIfInBounds_toArray, List.set_cons_zero, List.set_cons_succ]
        refine wpAnyH_take (i := 1) (v := ?_) rfl (by kernel_rfl) (by kernel_rfl) (by kernel_rfl) (fun _ _ _ h => h) (Or.inl ⟨by rfl, ?_⟩) hHeld ?_
        rotate_left
        · (intro w hSw; (try dsimp only at hSw); (go_simp <;> with_reducible rfl))
        try simp only [Act.put, List.getElem_toArray, List.getElem_cons_succ, List.getElem_cons_zero, List.setIfInBounds_toArray, List.set_cons_zero, List.set_cons_succ]
        refine wpAnyH_take (i := 2) (v := ?_) rfl (by kernel_rfl) (by kernel_rfl) (by kernel_rfl) (fun _ _ _ h => h) (Or.inl ⟨by rfl, ?_⟩) hHeld ?_
        rotate_left
        · (intro w hSw; (try dsimp only at hSw); (go_simp <;> with_reducible rfl))
        try simp only [Act.put, List.getElem_toArray, List.getElem_cons_succ, List.getElem_cons_zero, List.setIfInBounds_toArray, List.set_cons_zero, List.set_cons_succ]
        refine wpAnyH_take (i := 3) (v := ?_) rfl (by kernel_rfl) (by kernel_rfl) (by kernel_rfl) (fun _ _ _ h => h) (Or.inl ⟨by rfl, ?_⟩) hHeld ?_
        rotate_left
        · (intro w hSw; (try dsimp only at hSw); (go_simp <;> with_reducible rfl))
        try simp only [Act.put, List.getElem_toArray, List.getElem_cons_succ, List.getElem_cons_zero, List.setIfInBounds_toArray, List.set_cons_zero, List.set_cons_succ]
        refine wpAnyH_ready (rs := [4]) (by kernel_rfl) (by simp) ?_
        refine AllReadyH.cons rfl (fun K hK => ?_) ?_
        · go_simp
          refine (HV.out _ HBd.out).mono ?_
          rintro e w2 ⟨rfl, hb2⟩
          try go_wp2_with fail
          refine hK.out _ _ (keepC2 hb2 hbd hbd hS) (fun hHeld => ?_)
          clear hK K
          try simp only [Act.put, List.getElem_toArray, List.getElem_cons_succ, List.getElem_cons_zero, List.setIfInBounds_toArray, List.set_cons_zero, List.set_cons_succ]
          refine wpAnyH_take (i := 5) (v := ?_) rfl (by kernel_rfl) (by kernel_rfl) (by kernel_rfl) (fun _ _ _ h => h) (Or.inl ⟨by rfl, ?_⟩) hHeld ?_
          rotate_left
          · (intro w hSw; (try dsimp only at hSw); (go_simp <;> with_reducible rfl))
          try simp only [Act.put, List.getElem_toArray, List.getElem_cons_succ, List.getElem_cons_zero, List.setIfInBounds_toArray, List.set_cons_zero, List.set_cons_succ]
          refine wpAnyH_take (i := 6) (v := ?_) rfl (by kernel_rfl) (by kernel_rfl) (by kernel_rfl) (fun _ _ _ h => h) (Or.inl ⟨by rfl, ?_⟩) hHeld ?_
          rotate_left
          · (intro w hSw; (try dsimp only at hSw); (go_simp <;> with_reducible rfl))
          try simp only [Act.put, List.getElem_toArray, List.getElem_cons_succ, List.getElem_cons_zero, List.setIfInBounds_toArray, List.set_cons_zero, List.set_cons_succ]
          refine wpAnyH_take (i := 7) (v := undef) rfl (by kernel_rfl) (by kernel_rfl) (by kernel_rfl) (fun _ _ _ h => h) (Or.inr ⟨by rfl, rfl⟩) hHeld ?_
          try simp only [Act.put, List.getElem_toArray, List.getElem_cons_succ, List.getElem_cons_zero, List.setIfInBounds_toArray, List.set_cons_zero, List.set_cons_succ]
          refine wpAnyH_take (i := 8) (v := undef) rfl (by kernel_rfl) (by kernel_rfl) (by kernel_rfl) (fun _ _ _ h => h) (Or.inr ⟨by rfl, rfl⟩) hHeld ?_
          try simp only [Act.put, List.getElem_toArray, List.getElem_cons_succ, List.getElem_cons_zero, List.setIfInBounds_toArray, List.set_cons_zero, List.set_cons_succ]
          refine wpAnyH_take (i := 9) (v := undef) rfl (by kernel_rfl) (by kernel_rfl) (by kernel_rfl) (fun _ _ _ h => h) (Or.inr ⟨by rfl, rfl⟩) hHeld ?_
          try simp only [Act.put, List.getElem_toArray, List.getElem_cons_succ, List.getElem_cons_zero, List.setIfInBounds_toArray, List.set_cons_zero, List.set_cons_succ]
          refine wpAnyH_take (i := 10) (v := undef) rfl (by kernel_rfl) (by kernel_rfl) (by kernel_rfl) (fun _ _ _ h => h) (Or.inr ⟨by rfl, rfl⟩) hHeld ?_
          try simp only [Act.put, List.getElem_toArray, List.getElem_cons_succ, List.getElem_cons_zero, List.setIfInBounds_toArray, List.set_cons_zero, List.set_cons_succ]
          refine wpAnyH_take (i := 11) (v := undef) rfl (by kernel_rfl) (by kernel_rfl) (by kernel_rfl) (fun _ _ _ h => h) (Or.inr ⟨by rfl, rfl⟩) hHeld ?_
          try simp only [Act.put, List.getElem_toArray, List.getElem_cons_succ, List.getElem_cons_zero, List.setIfInBounds_toArray, List.set_cons_zero, List.set_cons_succ]
          refine wpAnyH_take (i := 12) (v := undef) rfl (by kernel_rfl) (by kernel_rfl) (by kernel_rfl) (fun _ _ _ h => h) (Or.inr ⟨by rfl, rfl⟩) hHeld ?_
          try simp only [Act.put, List.getElem_toArray, List.getElem_cons_succ, List.getElem_cons_zero, List.setIfInBounds_toArray, List.set_cons_zero, List.set_cons_succ]
          refine wpAnyH_take (i := 13) (v := undef) rfl (by kernel_rfl) (by kernel_rfl) (by kernel_rfl) (fun _ _ _ h => h) (Or.inr ⟨by rfl, rfl⟩) hHeld ?_
          try simp only [Act.put, List.getElem_toArray, List.getElem_cons_succ, List.getElem_cons_zero, List.setIfInBounds_toArray, List.set_cons_zero, List.set_cons_succ]
          refine wpAnyH_take (i := 14) (v := undef) rfl (by kernel_rfl) (by kernel_rfl) (by kernel_rfl) (fun _ _ _ h => h) (Or.inr ⟨by rfl, rfl⟩) hHeld ?_
          try simp only [Act.put, List.getElem_toArray, List.getElem_cons_succ, List.getElem_cons_zero, List.setIfInBounds_toArray, List.set_cons_zero, List.set_cons_succ]
          refine wpAnyH_take (i := 15) (v := undef) rfl (by kernel_rfl) (by kernel_rfl) (by kernel_rfl) (fun _ _ _ h => h) (Or.inr ⟨by rfl, rfl⟩) hHeld ?_
          try simp only [Act.put, List.getElem_toArray, List.getElem_cons_succ, List.getElem_cons_zero, List.setIfInBounds_toArray, List.set_cons_zero, List.set_cons_succ]
          refine wpAnyH_take (i := 16) (v := undef) rfl (by kernel_rfl) (by kernel_rfl) (by kernel_rfl) (fun _ _ _ h => h) (Or.inr ⟨by rfl, rfl⟩) hHeld ?_
          try simp only [Act.put, List.getElem_toArray, List.getElem_cons_succ, List.getElem_cons_zero, List.setIfInBounds_toArray, List.set_cons_zero, List.set_cons_succ]
          refine wpAnyH_take (i := 17) (v := ?_) rfl (by kernel_rfl) (by kernel_rfl) (by kernel_rfl) (fun _ _ _ h => h) (Or.inl ⟨by rfl, ?_⟩) hHeld ?_
          rotate_left
          · (intro w hSw; (try dsimp only at hSw); (go_simp <;> with_reducible rfl))
          try simp only [Act.put, List.getElem_toArray, List.getElem_cons_succ, List.getElem_cons_zero, List.setIfInBounds_toArray, List.set_cons_zero, List.set_cons_succ]
          refine wpAnyH_done (by kernel_rfl) ?_ _
          refine NoPanic.normal ?_
          have HB2 := Lib.hid (HBd.out.trans (hb2.mono HBd.out.size))
          clear hb2
          go_wp2
          go_ret
          exact ⟨ret_b HF.out.symm, HB2.out⟩
        exact AllReadyH.nil
      rw [hs] at hVS
      have HV := Lib.hid hVS
      have HSq := Lib.hid hs
      clear hVS hs
      by_cases hll : l = l0
      rotate_left
      · have hdl : ((l : Int) != (l0 : Int)) = true := by simp; omega
        have hdl2 : ((l : Int) == (l0 : Int)) = false := by simp; omega
        have hdl3 : ¬ (l : Int) = (l0 : Int) := by omega
        have HF := Lib.hid (show T = false by
          rw [HT.out]
          refine decide_eq_false fun h => hll ?_
          rw [HL.out, HL0.out]
          exact molAt_len h.2 hkx)
        clear hll
        go_wp2
        go_region_held3 (fun w' => w'.cell? ⟨b, off + k, none⟩ = some (.slice (S k).1 l (S k).2.1) ∧ w'.cell? ⟨b, off, none⟩ = some (.slice (S 0).1 l0 (S 0).2.1)) (first | exact hS | exact hS2)
          (first | (go_at_call 29; (with_reducible refine (HV.out _ HBd.out).mono ?_); rintro e w2 ⟨rfl, hb2⟩; have hS2 := keepC2 hb2 hbd hbd hS) | fail "no arm")
        all_goals (have HB2 := Lib.hid (HBd.out.trans (hb2.mono HBd.out.size)))
        all_goals go_wp2
        all_goals go_ret
        all_goals exact ⟨ret_b HF.out.symm, HB2.out⟩
      subst hll
      have hdl : ((l : Int) != (l : Int)) = false := by simp
      go_wp2
      go_region_held3 (fun w' => w'.cell? ⟨b, off + k, none⟩ = some (.slice (S k).1 l (S k).2.1) ∧ w'.cell? ⟨b, off, none⟩ = some (.slice (S 0).1 l (S 0).2.1)) (first | exact hS | exact hS2)
        (first | (go_at_call 29; (with_reducible refine (HV.out _ HBd.out).mono ?_); rintro e w2 ⟨rfl, hb2⟩; have hS2 := keepC2 hb2 hbd hbd hS) | fail "no arm")
      have HB2 := Lib.hid (HBd.out.trans (hb2.mono HBd.out.size))
      clear hb2 hS hS2 hbd
      go_wp2
      go_loopw [4] (fun i wr => ∃ j : Nat, j ≤ k ∧ i = .int .i64 j ∧ Hid (molAt x k j) ∧ Hid (Below w.heap.size w wr)) (fun i _ => k - (intOf i).toNat)
      case atStart => exact ⟨0, Nat.zero_le _, rfl, Lib.hid ⟨HSq.out, fun j hj => absurd hj (by omega)⟩, HB2⟩
      case round =>
        obtain ⟨j, hj, rfl, HA, HB3⟩ := hrel
        by_cases hjk : j < k
        · have hjx : j < x.length := by omega
          obtain ⟨b', off', e, _, hcj⟩ := HR.out.at_ j hjx
          injection e with e
          injection e with e1 e2
          subst e1 e2
          obtain ⟨b', off', e, _, hck⟩ := HR.out.at_ k hkx
          injection e with e
          injection e with e1 e2
          subst e1 e2
          have hsz3 := HB3.out.size
          have HBd := Lib.hid (show Below w.heap.size w wr.drew from HB3.out.drew)
          have hbd : b < wr.drew.heap.size := by show b < wr.heap.size; omega
          have hS := keepC2 (p := ⟨b, off + j, none⟩) (q := ⟨b, off + k, none⟩) HBd.out hb hb ⟨hcj, hck⟩
          have hj0 : (0 : Int) ≤ (j : Int) := by omega
          have hj2 : (j : Int) < (n : Int) := by omega
          have hlj : (pln x j).length = l := by rw [HL0.out]; exact molAt_len HM.out hjk
          have hO := l07Orthogonal_c wr.drew (S j).1 (S k).1 l (S j).2.1 (S k).2.1 (S j).2.2 (S k).2.2 (pln x j) (pln x k) ((HR.out.rows j hjx).below HBd.out) ((HR.out.rows k hkx).below HBd.out) hlj HL.out.symm (HM.out j hjk).1 HSq.out
          have hcm := ortB_comm HSq.out (HM.out j hjk).1 HL.out.symm hlj
          obtain ⟨r, hrr⟩ : ∃ r, r = ortB l (pln x j) (pln x k) := ⟨_, rfl⟩
          rw [← hrr] at hO hcm
          rw [hlj, ← HL.out] at hS
          have HO := Lib.hid hO
          have HLj := Lib.hid hlj
          clear hO hcj hck hrr hlj
          rcases r with _ | _
          · have HF := Lib.hid (show T = false by
              rw [HT.out]
              refine decide_eq_false fun h => ?_
              have := (h.2 k hkx).2 j hjk
              rw [← HL.out, hcm] at this
              cases this.2)
            clear hcm
            go_wp2
            go_region_held3 (fun w' => w'.cell? ⟨b, off + j, none⟩ = some (.slice (S j).1 l (S j).2.1) ∧ w'.cell? ⟨b, off + k, none⟩ = some (.slice (S k).1 l (S k).2.1)) (first | exact hS | exact hS2)
              (first | (go_at_call 30; (with_reducible refine (HO.out).mono ?_); rintro e w5 ⟨rfl, hb5⟩; have hS2 := keepC2 hb5 hbd hbd hS) | fail "no arm")
            have HB5 := Lib.hid (HBd.out.trans (hb5.mono HBd.out.size))
            clear hb5 hS hS2
            go_wp2
            go_ret
            exact ⟨ret_b HF.out.symm, HB5.out⟩
          · have HA2 := Lib.hid (show molAt x k (j + 1) from ⟨HSq.out, fun i hi => by
              by_cases e : i = j
              · subst e
                exact ⟨by rw [HLj.out, HL.out], by rw [← HL.out]; exact hcm⟩
              · exact HA.out.2 i (by omega)⟩)
            clear hcm
            go_wp2
            go_region_held3 (fun w' => w'.cell? ⟨b, off + j, none⟩ = some (.slice (S j).1 l (S j).2.1) ∧ w'.cell? ⟨b, off + k, none⟩ = some (.slice (S k).1 l (S k).2.1)) (first | exact hS | exact hS2)
              (first | (go_at_call 30; (with_reducible refine (HO.out).mono ?_); rintro e w5 ⟨rfl, hb5⟩; have hS2 := keepC2 hb5 hbd hbd hS) | fail "no arm")
            have HB5 := Lib.hid (HBd.out.trans (hb5.mono HBd.out.size))
            clear hb5 hS hS2
            go_wp2
            go_roundw
            case rel => exact ⟨j + 1, by omega, by go_num, HA2, HB5⟩
            case measure => simp [intOf] <;> omega
        · obtain rfl : j = k := by omega
          have HM2 := Lib.hid (show ∀ i, i < j + 1 → molAt x i i from fun i hi => by
            by_cases e : i = j
            · subst e; exact HA.out
            · exact HM.out i (by omega))
          go_wp2
          go_roundw
          case rel => exact ⟨j + 1, by omega, by go_num, HM2, HB3⟩
          case measure => simp [intOf] <;> omega
    · obtain rfl : k = n := by omega
      have HF := Lib.hid (show T = true by
        rw [HT.out]
        exact decide_eq_true ⟨by have := HN.out; omega, by rw [HN.out]; exact HM.out⟩)
      go_wp2
      go_ret
      exact ⟨ret_b HF.out.symm, HB.out⟩
end Go.Proofs.Ythgbfgdnljgicaa
