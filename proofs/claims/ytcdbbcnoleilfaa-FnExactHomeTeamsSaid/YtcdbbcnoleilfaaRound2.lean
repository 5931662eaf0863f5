/-
  RoundRobin: the reference's walk. Conditions: those of each theorem.
-/
import Derived.Test.YtcdbbcnoleilfaaRound
import Derived.Test.YtcdbbcnoleilfaaSet13
import Derived.Test.YtcdbbcnoleilfaaStepM
namespace Go.Proofs.Ytcdbbcnoleilfaa
open Go.RowKit
set_option linter.unusedVariables false
set_option linter.unusedSimpArgs false

set_option maxRecDepth 100000 in
set_option maxHeartbeats 8000000 in
theorem l14Rounds_c (w : World) (N : Nat) (hN2 : 2 ≤ N) (hN32 : N ≤ 32) : Calls Try.prog 35 #[.int .i64 (N : Int)] w (PostL w (rsTo N (rmod N) (rmod N))) := by
  obtain ⟨m, hm⟩ : ∃ m, m = rmod N := ⟨_, rfl⟩
  rw [← hm]
  obtain ⟨e0, he0⟩ : ∃ e0, e0 = N % 2 := ⟨_, rfl⟩
  obtain ⟨h, hh⟩ : ∃ h, h = (m - 1) / 2 := ⟨_, rfl⟩
  obtain ⟨E, hE⟩ : ∃ E, E = m + 1 := ⟨_, rfl⟩
  have hme : m = N - 1 + e0 := by rw [hm, he0]; rfl
  have he1 : e0 ≤ 1 := by omega
  have hm1 : 1 ≤ m := by omega
  have hm33 : m ≤ 32 := by omega
  have hmh : m = 2 * h + 1 := by unfold rmod at hm; omega
  have hM2 : Int.tmod (N : Int) 2 = (e0 : Int) := by have := tmod_nat N 2; rw [he0]; exact this
  obtain ⟨N1, hN1⟩ : ∃ N1, N1 = N - 1 := ⟨_, rfl⟩
  have hS1 : IntKind.i64.wrap ((N : Int) - 1) = (N1 : Int) := by rw [show (N : Int) - 1 = (N1 : Int) by omega]; exact IntWalk.i64_in _ (by omega)
  have hS2 : IntKind.i64.wrap ((N1 : Int) + (e0 : Int)) = (m : Int) := by rw [show (N1 : Int) + (e0 : Int) = (m : Int) by omega]; exact IntWalk.i64_in _ (by omega)
  obtain ⟨m1, hm1'⟩ : ∃ m1, m1 = m - 1 := ⟨_, rfl⟩
  have hS3 : IntKind.i64.wrap ((m : Int) - 1) = (m1 : Int) := by rw [show (m : Int) - 1 = (m1 : Int) by omega]; exact IntWalk.i64_in _ (by omega)
  have hS4 : Int.tdiv (m1 : Int) 2 = (h : Int) := by rw [Int.tdiv_eq_ediv_of_nonneg (by omega)]; omega
  have hN1b : N1 ≤ 31 := by omega
  have hh16 : h ≤ 16 := by omega
  have HR0 := Lib.hid (fun r => show rrTo N m r 0 = if e0 = 0 then [prL r N1] else [] from by unfold rrTo; rw [hN1, he0]; simp)
  have HSort := Lib.hid (fun r => show sortLL (rrTo N m r h) = sortLL (rrTo N m r ((m - 1) / 2)) from by rw [hh])
  have HL0 := Lib.hid (OwnL.lit0 w (hi := (w.alloc (.cells #[] 22)).heap.size) (Nat.le_refl w.heap.size) (by simp) (fun _ => (none, 0, fun _ => (none, 0))) (fun _ => (0, 0)))
  have HB0 := Lib.hid ((Below.refl w.heap.size w).alloc (Nat.le_refl _) (.cells #[] 22))
  have HMh := Lib.hid hmh
  have HEm := Lib.hid hE
  have hhm : h ≤ m := by omega
  clear hm he0 hh hme hN1 hm1' hmh
  go_enter Try.func35, Try.ntmps35
  go_wp2
  go_loopw [4, 5] (fun o v wr => ∃ (r : Nat) (A : Option Addr) (c : Nat) (S : Spine3) (I : Nat → Nat × Nat), r ≤ m ∧ v = .int .i64 r ∧ o = .slice A r c ∧ Hid (OwnL wr w.heap.size wr.heap.size A c S I (rsTo N m r)) ∧ Hid (Below w.heap.size w wr)) (fun _ v _ => m - (intOf v).toNat)
  case atStart => exact ⟨0, _, _, _, _, Nat.zero_le _, rfl, rfl, HL0, HB0⟩
  case round =>
    obtain ⟨r, A, c, S, I, hrm, rfl, rfl, HO, HB⟩ := hrel
    by_cases hlr : r < m
    · obtain ⟨wo, hwo⟩ : ∃ wo : World, wo = wr := ⟨_, rfl⟩
      subst hwo
      have hz := HB.out.size
      have HE0 := Lib.hid (OwnM.lit0 wo (Nat.le_refl wo.heap.size) (fun _ => (none, 0)))
      have HEb := Lib.hid ((Below.refl wo.heap.size wo).alloc (Nat.le_refl _) (.cells #[] 52))
      have hstart : ∀ (P : Prop), (∀ (wi : World) (A6 : Option Addr) (n6 c6 : Nat) (R6 : Spine), Hid ((rrTo N m r 0).length = n6) → Hid (OwnM wi wo.heap.size A6 c6 R6 (rrTo N m r 0)) → Hid (Below wo.heap.size wo wi) → P) → P → P := fun _ _ h => h
      clear hstart
      by_cases he : e0 = 0
      · have hd : ((e0 : Int) == 0) = true := by simp [he]
        have HR0' := Lib.hid (show rrTo N m r 0 = [prL r N1] from by rw [HR0.out, if_pos he])
        have HCp := Lib.hid (fun (W : World) => l14Pair_c W r N1 (by omega) (by omega))
        clear he
        go_wp2_with fail
        refine (HCp.out _).mono ?_
        rintro e w4 ⟨⟨A4, n4, c4, rfl, hn4, ho4⟩, hb4⟩
        have hn4' : n4 = 2 := by rw [← hn4]; rfl
        subst hn4'
        have hB4 : Below wo.heap.size wo w4 := HEb.out.trans (hb4.mono (by simp))
        have hz4 := hB4.size
        have HN4 := Lib.hid hn4
        have HX4 := Lib.hid ((ho4.lower (lo' := wo.heap.size) (by simp)).alloc (.cells #[.slice A4 2 c4] 52))
        have HE4 := Lib.hid ((HE0.out.below hb4).alloc (.cells #[.slice A4 2 c4] 52))
        have HAp4 := Lib.hid (later_apart HE0.out ho4)
        have HB4 := Lib.hid (hB4.alloc hz4 (.cells #[.slice A4 2 c4] 52))
        clear hn4 ho4 hb4 hB4
        go_wp2_with (at_builtin
                     refine wpM_append rfl _ _ rfl wo.heap.size _ _ _ (fun _ => (none, 0)) [] A4 2 c4 (prL r N1) w4.heap.size rfl rfl rfl HN4.out HE4.out HX4.out HAp4.out (World.cell?_alloc_at _ _ _ _ rfl) (by omega) (by simp; omega) ?_
                     intro A5 c5 R5 w5 ho5 hg5 ha5)
        have HB5 := Lib.hid (HB4.out.trans (below_blkM HE4.out hg5 (Nat.le_refl _) (by simp; omega)))
        have HO5 := Lib.hid (show OwnM w5 wo.heap.size A5 c5 R5 (rrTo N m r 0) from by rw [HR0'.out]; exact ho5)
        have HN5 := Lib.hid (show (rrTo N m r 0).length = 1 from by rw [HR0'.out]; rfl)
        clear ho5 hg5 ha5
        go_wp2
        go_loopw [6, 7] (fun o v wr => ∃ (k n6 : Nat) (A6 : Option Addr) (c6 : Nat) (R6 : Spine), k ≤ h ∧ v = .int .i64 ((k : Int) + 1) ∧ o = .slice A6 n6 c6 ∧ Hid ((rrTo N m r k).length = n6) ∧ Hid (OwnM wr wo.heap.size A6 c6 R6 (rrTo N m r k)) ∧ Hid (Below wo.heap.size wo wr)) (fun _ v _ => h + 1 - (intOf v).toNat)
        case atStart => exact ⟨0, _, _, _, _, Nat.zero_le _, rfl, rfl, HN5, HO5, HB5⟩
        case round =>
          obtain ⟨k, n6, A6, c6, R6, hkh, rfl, rfl, HN6, HO6, HB6⟩ := hrel
          have hn6 : n6 ≤ 20 := by have := rrTo_len N m r k; rw [HN6.out] at this; omega
          have hz6 := HB6.out.size
          by_cases hlk : k < h
          · skip
            obtain ⟨i, hi'⟩ : ∃ i, i = k + 1 := ⟨_, rfl⟩
            have hir : i ≤ h := by omega
            have him : i ≤ m := by omega
            have hi1 : 1 ≤ i := by omega
            obtain ⟨s, hs⟩ : ∃ s, s = r + i := ⟨_, rfl⟩
            obtain ⟨u, hu⟩ : ∃ u, u = s % m := ⟨_, rfl⟩
            obtain ⟨d, hdd⟩ : ∃ d, d = r + m - i := ⟨_, rfl⟩
            obtain ⟨v, hv⟩ : ∃ v, v = d % m := ⟨_, rfl⟩
            obtain ⟨z, hz⟩ : ∃ z : Int, z = (r : Int) - (i : Int) := ⟨_, rfl⟩
            have hA1 : IntKind.i64.wrap ((r : Int) + (i : Int)) = (s : Int) := by rw [show (r : Int) + (i : Int) = (s : Int) by omega]; exact IntWalk.i64_in _ (by omega)
            have hA2 : Int.tmod (s : Int) (m : Int) = (u : Int) := by rw [tmod_nat, hu]
            have hB1 : IntKind.i64.wrap ((r : Int) - (i : Int)) = z := by rw [← hz]; exact IntWalk.i64_in _ (by omega)
            have hB2 : IntKind.i64.wrap (z + (m : Int)) = (d : Int) := by rw [show z + (m : Int) = (d : Int) by omega]; exact IntWalk.i64_in _ (by omega)
            have hB5 : IntKind.i64.wrap (z + (E : Int)) = ((d + 1 : Nat) : Int) := by rw [show z + (E : Int) = ((d + 1 : Nat) : Int) by omega]; exact IntWalk.i64_in _ (by omega)
            have hB6 : IntKind.i64.wrap (((d + 1 : Nat) : Int) - 1) = (d : Int) := by rw [show ((d + 1 : Nat) : Int) - 1 = (d : Int) by omega]; exact IntWalk.i64_in _ (by omega)
            obtain ⟨d1, hd1⟩ : ∃ d1, d1 = d + 1 := ⟨_, rfl⟩
            rw [← hd1] at hB5 hB6
            have hB3 : Int.tmod (d : Int) (m : Int) = (v : Int) := by rw [tmod_nat, hv]
            have hum : u < m := by rw [hu]; exact Nat.mod_lt _ (by omega)
            have hvm : v < m := by rw [hv]; exact Nat.mod_lt _ (by omega)
            have hSu := Lib.hid (show rrTo N m r (k + 1) = rrTo N m r k ++ [prL u v] from by rw [rrTo_succ, hu, hv, hs, hdd, hi'])
            have HI := Lib.hid hi'
            have hmne : (m : Int) ≠ 0 := by omega
            have hm0 : ¬ m = 0 := by omega
            have hmne2 : ((m : Int) == 0) = false := by simp; omega
            clear hs hu hdd hv hz hi' hd1
            rw [show (k : Int) + 1 = (i : Int) by have := HI.out; omega]
            have HCp := Lib.hid (fun (W : World) => l14Pair_c W u v (by omega) (by omega))
            go_wp2
            have hz6' : wo.heap.size ≤ wr.drew.heap.size := hz6
            clear hd
            go_region_held3 (fun _ => True) (first | exact trivial) (first | (go_at_call 76; refine (HCp.out _).mono ?_; rintro e w7 ⟨⟨A7, n7, c7, rfl, hn7, ho7⟩, hb7⟩) | (refine stepM_append rfl _ _ rfl wo.heap.size A6 c6 n6 R6 (rrTo N m r k) A7 n7 c7 (prL u v) w7.heap.size (by rfl) (by rfl) HN6.out hn7 ((HO6.out.drew.below hb7).alloc (.cells #[.slice A7 n7 c7] 52)) ((ho7.lower (lo' := wo.heap.size) hz6').alloc (.cells #[.slice A7 n7 c7] 52)) (later_apart HO6.out.drew ho7) (World.cell?_alloc_at _ _ _ _ rfl) (by omega) (Nat.le_trans hz6' (Nat.le_trans hb7.size (by simp))) ?_; intro A8 c8 R8 w8 ho8 hg8 ha8))
            clear hA1 hA2 hB1 hB2 hB3 hB5 hB6
            have hB7 : Below wo.heap.size wo w7 := HB6.out.drew.trans (hb7.mono hz6')
            have hz7 := hB7.size
            have HB8 := Lib.hid ((hB7.alloc hz7 (.cells #[.slice A7 n7 c7] 52)).trans (below_blkM ((HO6.out.drew.below hb7).alloc (.cells #[.slice A7 n7 c7] 52)) hg8 (Nat.le_refl _) (by simp; omega)))
            have HO8 := Lib.hid (show OwnM w8 wo.heap.size A8 c8 R8 (rrTo N m r (k + 1)) from by rw [hSu.out]; exact ho8)
            have HN8 := Lib.hid (show (rrTo N m r (k + 1)).length = n6 + 1 from by rw [hSu.out, List.length_append, HN6.out]; rfl)
            clear ho8 hg8 ha8 hn7 ho7 hb7 hB7 hz7
            go_wp2
            go_roundw
            case rel => exact ⟨k + 1, n6 + 1, A8, c8, R8, by have := HI.out; omega, by have := HI.out; go_num, rfl, HN8, HO8, HB8⟩
            case measure => have := HI.out; simp [intOf]; omega
          · obtain rfl : k = h := by omega
            have HSo := Lib.hid (l10Sort_c wr A6 n6 c6 R6 (rrTo N m r k) HO6.out.rd HN6.out (by rw [← HN6.out]; exact HO6.out.nilCap) (by omega) (fun j hj => by
              have h1 := rrTo_two N m r k (row (rrTo N m r k) j) (by rw [row_eq (by rw [HN6.out]; exact hj)]; exact List.getElem_mem _)
              omega))
            go_wp2_with fail
            refine (HSo.out).mono ?_
            rintro e w9 ⟨⟨A9, n9, c9, R9, rfl, hn9, ho9⟩, hb9⟩
            have hB9 : Below w.heap.size w w9 := HB.out.trans ((HB6.out.trans (hb9.mono hz6)).mono hz)
            have hz9 : wr.heap.size ≤ w9.heap.size := hb9.size
            have HL9 := Lib.hid ((HO.out.step (w' := w9) (fun j _ h2 => (HB6.out.trans (hb9.mono hz6)).block j h2)).step (w' := w9.alloc (.cells #[.slice A9 n9 c9] 22)) (fun j _ h2 => Below.heap_alloc w9 _ j (by omega)))
            have HI9 := Lib.hid ((ho9.lower (lo' := wo.heap.size) hz6).in_.step (w' := w9.alloc (.cells #[.slice A9 n9 c9] 22)) (fun j _ h2 => Below.heap_alloc w9 _ j h2))
            have HN9 := Lib.hid hn9
            have HB9 := Lib.hid (hB9.alloc hB9.size (.cells #[.slice A9 n9 c9] 22))
            clear hn9 ho9 hb9
            go_wp2_with (at_builtin
                         refine wpL_append rfl _ _ rfl w.heap.size wo.heap.size A c r S I (rsTo N m r) A9 n9 c9 R9 (sortLL (rrTo N m r k)) wo.heap.size w9.heap.size w9.heap.size rfl rfl (rsTo_len N m r) HN9.out HL9.out HI9.out hz (Nat.le_refl _) (by omega) (by simp) (World.cell?_alloc_at _ _ _ _ rfl) (by omega) (by simp; omega) ?_
                         intro A10 c10 S10 I10 w10 ho10 hg10)
            have HB10 := Lib.hid (HB9.out.trans (Below.of_grown hg10 (by simp; omega) (fun g eg => by
              rcases HL9.out.form with ⟨e1, _⟩ | ⟨g1, e1, hl1, _⟩
              · rw [e1] at eg; simp [blk] at eg
              · rw [e1, blk_some] at eg; injection eg with eg; omega)))
            have HO10 := Lib.hid (show OwnL w10 w.heap.size w10.heap.size A10 c10 S10 I10 (rsTo N m (r + 1)) from by rw [rsTo_succ, ← HSort.out]; exact ho10)
            clear ho10 hg10 hB9
            go_wp2
            go_roundw
            case rel => exact ⟨r + 1, A10, c10, S10, I10, by omega, by go_num, rfl, HO10, HB10⟩
            case measure => simp [intOf]; omega
      · have hd : ((e0 : Int) == 0) = false := by simp; omega
        have HR0' := Lib.hid (show rrTo N m r 0 = [] from by rw [HR0.out, if_neg he])
        have HB5 := HEb
        have HO5 := Lib.hid (show OwnM (wo.alloc (.cells #[] 52)) wo.heap.size (some ⟨wo.heap.size, 0, none⟩) 0 (fun _ => (none, 0)) (rrTo N m r 0) from by rw [HR0'.out]; exact HE0.out)
        have HN5 := Lib.hid (show (rrTo N m r 0).length = 0 from by rw [HR0'.out]; rfl)
        clear he
        go_wp2
        go_loopw [6, 7] (fun o v wr => ∃ (k n6 : Nat) (A6 : Option Addr) (c6 : Nat) (R6 : Spine), k ≤ h ∧ v = .int .i64 ((k : Int) + 1) ∧ o = .slice A6 n6 c6 ∧ Hid ((rrTo N m r k).length = n6) ∧ Hid (OwnM wr wo.heap.size A6 c6 R6 (rrTo N m r k)) ∧ Hid (Below wo.heap.size wo wr)) (fun _ v _ => h + 1 - (intOf v).toNat)
        case atStart => exact ⟨0, _, _, _, _, Nat.zero_le _, rfl, rfl, HN5, HO5, HB5⟩
        case round =>
          obtain ⟨k, n6, A6, c6, R6, hkh, rfl, rfl, HN6, HO6, HB6⟩ := hrel
          have hn6 : n6 ≤ 20 := by have := rrTo_len N m r k; rw [HN6.out] at this; omega
          have hz6 := HB6.out.size
          by_cases hlk : k < h
          · skip
            obtain ⟨i, hi'⟩ : ∃ i, i = k + 1 := ⟨_, rfl⟩
            have hir : i ≤ h := by omega
            have him : i ≤ m := by omega
            have hi1 : 1 ≤ i := by omega
            obtain ⟨s, hs⟩ : ∃ s, s = r + i := ⟨_, rfl⟩
            obtain ⟨u, hu⟩ : ∃ u, u = s % m := ⟨_, rfl⟩
            obtain ⟨d, hdd⟩ : ∃ d, d = r + m - i := ⟨_, rfl⟩
            obtain ⟨v, hv⟩ : ∃ v, v = d % m := ⟨_, rfl⟩
            obtain ⟨z, hz⟩ : ∃ z : Int, z = (r : Int) - (i : Int) := ⟨_, rfl⟩
            have hA1 : IntKind.i64.wrap ((r : Int) + (i : Int)) = (s : Int) := by rw [show (r : Int) + (i : Int) = (s : Int) by omega]; exact IntWalk.i64_in _ (by omega)
            have hA2 : Int.tmod (s : Int) (m : Int) = (u : Int) := by rw [tmod_nat, hu]
            have hB1 : IntKind.i64.wrap ((r : Int) - (i : Int)) = z := by rw [← hz]; exact IntWalk.i64_in _ (by omega)
            have hB2 : IntKind.i64.wrap (z + (m : Int)) = (d : Int) := by rw [show z + (m : Int) = (d : Int) by omega]; exact IntWalk.i64_in _ (by omega)
            have hB5 : IntKind.i64.wrap (z + (E : Int)) = ((d + 1 : Nat) : Int) := by rw [show z + (E : Int) = ((d + 1 : Nat) : Int) by omega]; exact IntWalk.i64_in _ (by omega)
            have hB6 : IntKind.i64.wrap (((d + 1 : Nat) : Int) - 1) = (d : Int) := by rw [show ((d + 1 : Nat) : Int) - 1 = (d : Int) by omega]; exact IntWalk.i64_in _ (by omega)
            obtain ⟨d1, hd1⟩ : ∃ d1, d1 = d + 1 := ⟨_, rfl⟩
            rw [← hd1] at hB5 hB6
            have hB3 : Int.tmod (d : Int) (m : Int) = (v : Int) := by rw [tmod_nat, hv]
            have hum : u < m := by rw [hu]; exact Nat.mod_lt _ (by omega)
            have hvm : v < m := by rw [hv]; exact Nat.mod_lt _ (by omega)
            have hSu := Lib.hid (show rrTo N m r (k + 1) = rrTo N m r k ++ [prL u v] from by rw [rrTo_succ, hu, hv, hs, hdd, hi'])
            have HI := Lib.hid hi'
            have hmne : (m : Int) ≠ 0 := by omega
            have hm0 : ¬ m = 0 := by omega
            have hmne2 : ((m : Int) == 0) = false := by simp; omega
            clear hs hu hdd hv hz hi' hd1
            rw [show (k : Int) + 1 = (i : Int) by have := HI.out; omega]
            have HCp := Lib.hid (fun (W : World) => l14Pair_c W u v (by omega) (by omega))
            go_wp2
            have hz6' : wo.heap.size ≤ wr.drew.heap.size := hz6
            clear hd
            go_region_held3 (fun _ => True) (first | exact trivial) (first | (go_at_call 76; refine (HCp.out _).mono ?_; rintro e w7 ⟨⟨A7, n7, c7, rfl, hn7, ho7⟩, hb7⟩) | (refine stepM_append rfl _ _ rfl wo.heap.size A6 c6 n6 R6 (rrTo N m r k) A7 n7 c7 (prL u v) w7.heap.size (by rfl) (by rfl) HN6.out hn7 ((HO6.out.drew.below hb7).alloc (.cells #[.slice A7 n7 c7] 52)) ((ho7.lower (lo' := wo.heap.size) hz6').alloc (.cells #[.slice A7 n7 c7] 52)) (later_apart HO6.out.drew ho7) (World.cell?_alloc_at _ _ _ _ rfl) (by omega) (Nat.le_trans hz6' (Nat.le_trans hb7.size (by simp))) ?_; intro A8 c8 R8 w8 ho8 hg8 ha8))
            clear hA1 hA2 hB1 hB2 hB3 hB5 hB6
            have hB7 : Below wo.heap.size wo w7 := HB6.out.drew.trans (hb7.mono hz6')
            have hz7 := hB7.size
            have HB8 := Lib.hid ((hB7.alloc hz7 (.cells #[.slice A7 n7 c7] 52)).trans (below_blkM ((HO6.out.drew.below hb7).alloc (.cells #[.slice A7 n7 c7] 52)) hg8 (Nat.le_refl _) (by simp; omega)))
            have HO8 := Lib.hid (show OwnM w8 wo.heap.size A8 c8 R8 (rrTo N m r (k + 1)) from by rw [hSu.out]; exact ho8)
            have HN8 := Lib.hid (show (rrTo N m r (k + 1)).length = n6 + 1 from by rw [hSu.out, List.length_append, HN6.out]; rfl)
            clear ho8 hg8 ha8 hn7 ho7 hb7 hB7 hz7
            go_wp2
            go_roundw
            case rel => exact ⟨k + 1, n6 + 1, A8, c8, R8, by have := HI.out; omega, by have := HI.out; go_num, rfl, HN8, HO8, HB8⟩
            case measure => have := HI.out; simp [intOf]; omega
          · obtain rfl : k = h := by omega
            have HSo := Lib.hid (l10Sort_c wr A6 n6 c6 R6 (rrTo N m r k) HO6.out.rd HN6.out (by rw [← HN6.out]; exact HO6.out.nilCap) (by omega) (fun j hj => by
              have h1 := rrTo_two N m r k (row (rrTo N m r k) j) (by rw [row_eq (by rw [HN6.out]; exact hj)]; exact List.getElem_mem _)
              omega))
            go_wp2_with fail
            refine (HSo.out).mono ?_
            rintro e w9 ⟨⟨A9, n9, c9, R9, rfl, hn9, ho9⟩, hb9⟩
            have hB9 : Below w.heap.size w w9 := HB.out.trans ((HB6.out.trans (hb9.mono hz6)).mono hz)
            have hz9 : wr.heap.size ≤ w9.heap.size := hb9.size
            have HL9 := Lib.hid ((HO.out.step (w' := w9) (fun j _ h2 => (HB6.out.trans (hb9.mono hz6)).block j h2)).step (w' := w9.alloc (.cells #[.slice A9 n9 c9] 22)) (fun j _ h2 => Below.heap_alloc w9 _ j (by omega)))
            have HI9 := Lib.hid ((ho9.lower (lo' := wo.heap.size) hz6).in_.step (w' := w9.alloc (.cells #[.slice A9 n9 c9] 22)) (fun j _ h2 => Below.heap_alloc w9 _ j h2))
            have HN9 := Lib.hid hn9
            have HB9 := Lib.hid (hB9.alloc hB9.size (.cells #[.slice A9 n9 c9] 22))
            clear hn9 ho9 hb9
            go_wp2_with (at_builtin
                         refine wpL_append rfl _ _ rfl w.heap.size wo.heap.size A c r S I (rsTo N m r) A9 n9 c9 R9 (sortLL (rrTo N m r k)) wo.heap.size w9.heap.size w9.heap.size rfl rfl (rsTo_len N m r) HN9.out HL9.out HI9.out hz (Nat.le_refl _) (by omega) (by simp) (World.cell?_alloc_at _ _ _ _ rfl) (by omega) (by simp; omega) ?_
                         intro A10 c10 S10 I10 w10 ho10 hg10)
            have HB10 := Lib.hid (HB9.out.trans (Below.of_grown hg10 (by simp; omega) (fun g eg => by
              rcases HL9.out.form with ⟨e1, _⟩ | ⟨g1, e1, hl1, _⟩
              · rw [e1] at eg; simp [blk] at eg
              · rw [e1, blk_some] at eg; injection eg with eg; omega)))
            have HO10 := Lib.hid (show OwnL w10 w.heap.size w10.heap.size A10 c10 S10 I10 (rsTo N m (r + 1)) from by rw [rsTo_succ, ← HSort.out]; exact ho10)
            clear ho10 hg10 hB9
            go_wp2
            go_roundw
            case rel => exact ⟨r + 1, A10, c10, S10, I10, by omega, by go_num, rfl, HO10, HB10⟩
            case measure => simp [intOf]; omega
    · obtain rfl : r = m := by omega
      have HLn := Lib.hid (rsTo_len N r r)
      go_wp2
      go_ret
      exact ⟨⟨A, r, c, S, I, rfl, HLn.out, HO.out⟩, HB.out⟩
end Go.Proofs.Ytcdbbcnoleilfaa
