/-
  HomeTeams of the reference. Conditions: those of each theorem.
-/
import Derived.Test.YtcdbbcnoleilfaaHomP
import Derived.Test.YtcdbbcnoleilfaaRound2
namespace Go.Proofs.Ytcdbbcnoleilfaa
open Go.RowKit
set_option linter.unusedVariables false
set_option linter.unusedSimpArgs false

theorem rs_pln {N m h r : Nat} (hN : N = m + 1) (h2 : N % 2 = 0) (hh : (m - 1) / 2 = h) (hr : r < m) : pln (rsTo N m m) r = hL m r h := by
  unfold pln rsTo hL
  rw [List.getElem?_map, List.getElem?_range hr, Option.map_some, Option.getD_some, hh, rr_hPr hN h2]
def hoP (m r h k : Nat) : List Int := ((hL m r h).take k).map (hG m r h)
theorem hoP_succ {m r h k : Nat} (hk : k < h + 1) : hoP m r h (k + 1) = hoP m r h k ++ [hG m r h (row (hL m r h) k)] := by
  have hl := hL_len m r h
  unfold hoP
  rw [List.take_add_one, List.getElem?_eq_getElem (by omega), row_eq (by omega), List.map_append]
  rfl
theorem hoP_len {m r h k : Nat} (hk : k ≤ h + 1) : (hoP m r h k).length = k := by
  have hl := hL_len m r h
  unfold hoP; rw [List.length_map, List.length_take]; omega
theorem hoP_all (m r h : Nat) : hoP m r h (h + 1) = hoR m h r := by
  have hl := hL_len m r h
  unfold hoP hoR; rw [List.take_of_length_le (by omega)]

theorem hPk_even {m r : Nat} (h : r % 2 = 0) : hPk m r 0 = r := by unfold hPk hFst hA; simp [h]
theorem hPk_odd {m r : Nat} (h : ¬ r % 2 = 0) : hPk m r 0 = m := by unfold hPk hFst hB; simp [h]
theorem hPk_a {m r k : Nat} (hk : 1 ≤ k) (h : k % 2 = 1) : (hPk m r k : Int) = ((r : Int) + (k : Int)) % (m : Int) := by
  have e : hFst r k = true := by unfold hFst; rw [if_neg (by omega)]; exact decide_eq_true h
  unfold hPk; rw [if_pos e]; unfold hA; rw [if_neg (by omega), Int.natCast_emod, Int.natCast_add]
theorem hPk_b {m r k : Nat} (hk : 1 ≤ k) (hk2 : k ≤ m) (h : ¬ k % 2 = 1) : (hPk m r k : Int) = ((r : Int) - (k : Int)) % (m : Int) := by
  rw [← Int.add_emod_right]
  have e : ¬ hFst r k = true := by unfold hFst; rw [if_neg (by omega)]; simp; omega
  unfold hPk; rw [if_neg e]; unfold hB; rw [if_neg (by omega), Int.natCast_emod]; congr 1; omega

set_option maxRecDepth 100000 in
set_option maxHeartbeats 8000000 in
theorem specHomeTeams_c (w : World) (n : Int) (hn64 : -9223372036854775808 ≤ n ∧ n ≤ 9223372036854775807) : Calls Try.prog 9 #[.int .i64 n] w (PostMC w (hoX n) (hoC n)) := by
  have HI := in_c n 2 32 w
  rcases hi : inB n 2 32 with _ | _
  · rw [hi] at HI
    have HI := Lib.hid HI
    rw [show hoX n = [] by unfold hoX hoOk; rw [hi]; rfl, show hoC n = 2 by unfold hoC hoOk; rw [hi]; rfl]
    clear hi
    go_enter Try.func9, Try.ntmps9
    go_wp2_with fail
    refine (HI.out).mono ?_
    rintro e w' ⟨rfl, rfl⟩
    go_wp2
    go_ret2
    exact ⟨⟨none, 0, 0, fun _ => (none, 0), rfl, rfl, OwnM.nil_ _ _ _⟩, Below.refl _ _⟩
  rw [hi] at HI
  have HI := Lib.hid HI
  have hb := inB_true.1 hi
  by_cases h2 : Int.tmod n 2 = 0
  rotate_left
  · have h2' : (Int.tmod n 2 != 0) = true := by simp; exact h2
    have ho : hoOk n = false := by unfold hoOk; rw [hi, decide_eq_false h2]; rfl
    rw [show hoX n = [] by unfold hoX; rw [ho]; rfl, show hoC n = 2 by unfold hoC; rw [ho]; rfl]
    rw [Int.tmod_eq_emod_of_nonneg (by omega)] at h2 h2'
    clear hi ho
    go_enter Try.func9, Try.ntmps9
    go_wp2_with fail
    refine (HI.out).mono ?_
    rintro e w' ⟨rfl, rfl⟩
    go_wp2
    go_ret2
    exact ⟨⟨none, 0, 0, fun _ => (none, 0), rfl, rfl, OwnM.nil_ _ _ _⟩, Below.refl _ _⟩
  have ho : hoOk n = true := by unfold hoOk; rw [hi, decide_eq_true h2]; rfl
  obtain ⟨h, hnh, hh15⟩ := ho_facts ho
  obtain ⟨N, hN⟩ : ∃ N, N = 2 * h + 2 := ⟨_, rfl⟩
  obtain ⟨m, hm⟩ : ∃ m, m = 2 * h + 1 := ⟨_, rfl⟩
  rw [← hN] at hnh
  subst hnh
  rw [show hoX (N : Int) = hoTo m h m by unfold hoX; rw [if_pos ho, show ((N : Int)).toNat - 1 = m by omega, show (((N : Int)).toNat - 2) / 2 = h by omega], show hoC (N : Int) = 0 by unfold hoC; rw [if_pos ho]]
  obtain ⟨h1, hh1⟩ : ∃ h1, h1 = h + 1 := ⟨_, rfl⟩
  have HH1 := Lib.hid hh1
  have hh1a : h + 1 ≤ h1 := by omega
  have hh1b : h1 ≤ h + 1 := by omega
  have hNm : N = m + 1 := by omega
  have hL0 := l14Rounds_c w N (by omega) (by omega)
  rw [show rmod N = m by unfold rmod; omega] at hL0
  have HL := Lib.hid hL0
  have HPl := Lib.hid (fun (r : Nat) (hr : r < m) => rs_pln (h := h) hNm (by omega) (by omega) hr)
  have h2' : ((N : Int) % 2 != 0) = false := by simp; omega
  have h2'' : (N : Int) % 2 = 0 := by omega
  have hN1 : (N : Int) - 1 = (m : Int) := by omega
  have hM1 : ((m : Int) - 1) / 2 = (h : Int) := by omega
  have HM1 := Lib.hid hM1
  have HN1 := Lib.hid hN1
  have HMh := Lib.hid hm
  have hm31 : m ≤ 31 := by omega
  have hN32 : N ≤ 32 := by omega
  have hm1 : 1 ≤ m := by omega
  have hhm : h < m := by omega
  have hmN : m < N := by omega
  clear hi hb h2 ho hN hh1 hL0 hNm hM1 hm hN1
  go_enter Try.func9, Try.ntmps9
  go_wp2_with fail
  refine (HI.out).mono ?_
  rintro e w' ⟨rfl, rfl⟩
  go_wp2_with fail
  refine (HL.out).mono ?_
  rintro e w2 ⟨⟨A2, n2, c2, S, I, rfl, hn2, ho2⟩, hb2⟩
  rw [rsTo_len] at hn2
  obtain rfl : n2 = m := hn2.symm
  have HO2 := Lib.hid ho2
  have HB2 := Lib.hid hb2
  have HE0 := Lib.hid (OwnM.lit0 w2 (Nat.le_refl w2.heap.size) (fun _ => (none, 0)))
  have HEb0 := Lib.hid ((Below.refl w2.heap.size w2).alloc (Nat.le_refl _) (.cells #[] 52))
  have HRl := Lib.hid (rsTo_len N n2 n2)
  clear hb2 ho2 hn2
  rw [HN1.out]
  go_wp2
  go_loopw [6, 7, 8, 9, 10, 11] (fun o v _ _ _ _ wr => ∃ (r : Nat) (A' : Option Addr) (c' : Nat) (R' : Spine), r ≤ n2 ∧ v = .int .i64 r ∧ o = .slice A' r c' ∧ Hid (OwnM wr w2.heap.size A' c' R' (hoTo n2 h r)) ∧ Hid (Below w2.heap.size w2 wr)) (fun _ v _ _ _ _ _ => n2 - (intOf v).toNat)
  case atStart => exact ⟨0, _, _, _, Nat.zero_le _, rfl, rfl, HE0, HEb0⟩
  case round =>
    obtain ⟨r, A', c', R', hr, rfl, rfl, HO, HB⟩ := hrel
    have hsz := HB.out.size
    by_cases hrm : r < n2
    · obtain ⟨g2, eg2, _, hg2, hcr, _⟩ := HO2.out.at_ (k := r) (by rw [HRl.out]; exact hrm)
      have hrw := (HO2.out.rows r (by rw [HRl.out]; exact hrm)).own.rd
      rw [HPl.out r hrm, hL_len, ← HH1.out] at hcr
      rw [HPl.out r hrm] at hrw
      subst eg2
      generalize (S r).1 = Ar at *
      generalize (S r).2.1 = cr at *
      generalize (S r).2.2 = Rr at *
      have HRw := Lib.hid hrw
      have HCr := Lib.hid hcr
      have hcrr := (HB.out.cell (p := ⟨g2, r, none⟩) hg2).trans hcr
      have HE := Lib.hid (OwnI.lit0 wr (Nat.le_refl wr.heap.size))
      have HEb := Lib.hid ((Below.refl wr.heap.size wr).alloc (Nat.le_refl _) (.cells #[] 2))
      obtain ⟨wo, rfl⟩ : ∃ wo, wo = wr := ⟨_, rfl⟩
      have hr0 : (0 : Int) ≤ (r : Int) := by omega
      have hr1 : (r : Int) < (n2 : Int) := by omega
      clear hrw hcr
      by_cases he : (r : Int) % 2 = 0
      · have HV0 := Lib.hid (show hmL n2 r 1 = [(r : Int)] by rw [hmL_succ, hPk_even (by omega)]; rfl)
        go_wp2_with (at_builtin; refine wpI_append rfl _ _ rfl wo.heap.size _ _ _ [] ((r : Int)) (wo.heap.size + 1) rfl rfl rfl (HE.out.alloc (.cells #[.int .i64 ((r : Int))] 2)) (World.cell?_alloc_at _ _ _ _ (by simp)) (by omega) (by simp; omega) ?_; intro A5 c5 w5 ho5 hg5 ha5)
        have HB5 := Lib.hid (show Below wo.heap.size wo w5 from (HEb.out.alloc (by simp) (.cells #[.int .i64 ((r : Int))] 2)).trans (below_blk (HE.out.alloc (.cells #[.int .i64 ((r : Int))] 2)) hg5 (Nat.le_refl _) (by simp; omega)))
        have HO5 := Lib.hid (show OwnI w5 wo.heap.size A5 c5 (hmL n2 r 1) from by rw [HV0.out]; exact ho5)
        clear ho5 hg5 ha5 hcrr
        try clear hN1
        go_wp2
        go_loopw [8, 9] (fun o v wr => ∃ (k : Nat) (A6 : Option Addr) (c6 : Nat), 1 ≤ k ∧ k ≤ h1 ∧ v = .int .i64 k ∧ o = .slice A6 k c6 ∧ Hid (OwnI wr wo.heap.size A6 c6 (hmL n2 r k)) ∧ Hid (Below wo.heap.size wo wr)) (fun _ v _ => h1 - (intOf v).toNat)
        case atStart => exact ⟨1, _, _, Nat.le_refl _, by omega, rfl, rfl, HO5, HB5⟩
        case round =>
          obtain ⟨k, A6, c6, hk1, hk, rfl, rfl, HO6, HB6⟩ := hrel
          have hM1 := HM1.out
          have hsz6 := HB6.out.size
          by_cases hkh : k ≤ h
          · have HLk := Lib.hid (hmL_len n2 r k)
            have HSk := Lib.hid (hmL_succ n2 r k)
            have HOa := Lib.hid (fun (v : Int) => HO6.out.alloc (.cells #[.int .i64 v] 2))
            by_cases hp : (k : Int) % 2 = 1
            · have HPk := Lib.hid (hPk_a (m := n2) (r := r) hk1 (by omega))
              obtain ⟨vk, hvk⟩ : ∃ vk : Int, vk = (((r : Int) + (k : Int)) % (n2 : Int)) := ⟨_, rfl⟩
              have HVk := Lib.hid hvk
              go_wp2_with (at_builtin; refine wpI_append rfl _ _ rfl wo.heap.size _ _ _ (hmL n2 r k) ((((r : Int) + (k : Int)) % (n2 : Int))) wr.heap.size rfl rfl HLk.out (HOa.out _) (World.cell?_alloc_at _ _ _ _ rfl) (by omega) (by simp; omega) ?_; intro A7 c7 w7 ho7 hg7 ha7)
              have HB7 := Lib.hid (show Below wo.heap.size wo w7 from (HB6.out.alloc hsz6 (.cells #[.int .i64 ((((r : Int) + (k : Int)) % (n2 : Int)))] 2)).trans (below_blk (HOa.out _) hg7 (Nat.le_refl _) (by simp; omega)))
              have HO7 := Lib.hid (show OwnI w7 wo.heap.size A7 c7 (hmL n2 r (k + 1)) from by rw [HSk.out, HPk.out]; exact ho7)
              clear ho7 hg7 ha7
              go_wp2
              go_roundw
              case rel => exact ⟨k + 1, _, _, by omega, by omega, by go_num, rfl, HO7, HB7⟩
              case measure => simp [intOf]; omega
            · have HPk := Lib.hid (hPk_b (m := n2) (r := r) hk1 (by omega) (by omega))
              obtain ⟨vk, hvk⟩ : ∃ vk : Int, vk = (((r : Int) - (k : Int)) % (n2 : Int)) := ⟨_, rfl⟩
              have HVk := Lib.hid hvk
              go_wp2_with (at_builtin; refine wpI_append rfl _ _ rfl wo.heap.size _ _ _ (hmL n2 r k) ((((r : Int) - (k : Int)) % (n2 : Int))) wr.heap.size rfl rfl HLk.out (HOa.out _) (World.cell?_alloc_at _ _ _ _ rfl) (by omega) (by simp; omega) ?_; intro A7 c7 w7 ho7 hg7 ha7)
              have HB7 := Lib.hid (show Below wo.heap.size wo w7 from (HB6.out.alloc hsz6 (.cells #[.int .i64 ((((r : Int) - (k : Int)) % (n2 : Int)))] 2)).trans (below_blk (HOa.out _) hg7 (Nat.le_refl _) (by simp; omega)))
              have HO7 := Lib.hid (show OwnI w7 wo.heap.size A7 c7 (hmL n2 r (k + 1)) from by rw [HSk.out, HPk.out]; exact ho7)
              clear ho7 hg7 ha7
              go_wp2
              go_roundw
              case rel => exact ⟨k + 1, _, _, by omega, by omega, by go_num, rfl, HO7, HB7⟩
              case measure => simp [intOf]; omega
          · obtain rfl : h1 = k := by omega
            have hcrr := ((HB.out.trans (HB6.out.mono hsz)).cell (p := ⟨g2, r, none⟩) hg2).trans HCr.out
            have HEr := Lib.hid ((OwnI.lit0 wr hsz6).alloc (.cells #[] 2))
            obtain ⟨w6, rfl⟩ : ∃ w6, w6 = wr := ⟨_, rfl⟩
            have HE6 := Lib.hid (OwnI.lit0 w6 (Nat.le_refl w6.heap.size))
            have HEb6 := Lib.hid ((Below.refl w6.heap.size w6).alloc (Nat.le_refl _) (.cells #[] 2))
            have HHas := Lib.hid (fun (W : World) (hb : Below w6.heap.size w6 W) (x : Int) => has_c W A6 h1 c6 (hmL n2 r h1) x ((HO6.out.below hb).rd) (hmL_len n2 r h1))
            go_wp2
            clear hcrr hM1
            go_loopw [10, 11] (fun o v wr => ∃ (i : Nat) (A8 : Option Addr) (c8 : Nat), i ≤ h1 ∧ v = .int .i64 i ∧ o = .slice A8 i c8 ∧ Hid (OwnI wr w6.heap.size A8 c8 (hoP n2 r h i)) ∧ Hid (Below w6.heap.size w6 wr)) (fun _ v _ => h1 - (intOf v).toNat)
            case atStart => exact ⟨0, _, _, Nat.zero_le _, rfl, rfl, HE6, HEb6⟩
            case round =>
              obtain ⟨i, A8, c8, hi, rfl, rfl, HO8, HB8⟩ := hrel
              have hsz8 := HB8.out.size
              have HBw := Lib.hid (HB.out.trans ((HB6.out.trans (HB8.out.mono hsz6)).mono hsz))
              have hcrr := (HBw.out.cell (p := ⟨g2, r, none⟩) hg2).trans HCr.out
              by_cases hih : i < h1
              · have hil : i < (hL n2 r h).length := by rw [hL_len]; omega
                have hlr : (row (hL n2 r h) i).length = 2 := hL_two (m := n2) (r := r) (h := h) (by rw [row_eq hil]; exact List.getElem_mem _)
                obtain ⟨b, off, e, hb, hcl⟩ := HRw.out.at_ i hil
                obtain ⟨b2, off2, e2, hb2, hcl0⟩ := (HRw.out.rows i hil).at_ 0 (by omega)
                obtain ⟨b3, off3, e3, hb3, hcl1⟩ := (HRw.out.rows i hil).at_ 1 (by omega)
                rw [e2] at e3
                injection e3 with e3
                injection e3 with e3 e4
                subst e3 e4
                have hclr := (HBw.out.cell (p := ⟨b, off + i, none⟩) hb).trans hcl
                have hcr0 := (HBw.out.cell (p := ⟨b2, off2 + 0, none⟩) hb2).trans hcl0
                have hcr1 := (HBw.out.cell (p := ⟨b2, off2 + 1, none⟩) hb2).trans hcl1
                rw [show off2 + 0 = off2 by omega] at hcr0
                rw [hlr, e2] at hclr
                rw [e] at hcrr
                have hi0 : (0 : Int) ≤ (i : Int) := by omega
                have hi1 : (i : Int) < (h1 : Int) := by omega
                have HSi := Lib.hid (hoP_succ (m := n2) (r := r) (h := h) (k := i) (by omega))
                have HLi := Lib.hid (hoP_len (m := n2) (r := r) (h := h) (k := i) (by omega))
                have HHi := Lib.hid (HHas.out wr HB8.out (nth (row (hL n2 r h) i) 0))
                have HG := Lib.hid (show hG n2 r h (row (hL n2 r h) i) = if hasB (hmL n2 r h1) (nth (row (hL n2 r h) i) 0) = true then nth (row (hL n2 r h) i) 0 else nth (row (hL n2 r h) i) 1 from by rw [HH1.out]; rfl)
                have HOa := Lib.hid (fun (v : Int) => HO8.out.alloc (.cells #[.int .i64 v] 2))
                clear hcl hcl0 hcl1 hlr hil e e2 hb hb2 hb3
                generalize nth (row (hL n2 r h) i) 0 = x0 at *
                generalize nth (row (hL n2 r h) i) 1 = x1 at *
                generalize hG n2 r h (row (hL n2 r h) i) = gv at *
                generalize hasB (hmL n2 r h1) x0 = tv at *
                rcases tv with _ | _
                · skip
                  have HGv := Lib.hid (show gv = x1 from by rw [HG.out]; rfl)
                  go_wp2_with fail
                  refine (HHi.out).mono ?_
                  rintro e w' ⟨rfl, rfl⟩
                  go_wp2_with (at_builtin; refine wpI_append rfl _ _ rfl w6.heap.size _ _ _ (hoP n2 r h i) (x1) wr.heap.size rfl rfl HLi.out (HOa.out _) (World.cell?_alloc_at _ _ _ _ rfl) (by omega) (by simp; omega) ?_; intro A9 c9 w9 ho9 hg9 ha9)
                  have HB9 := Lib.hid (show Below w6.heap.size w6 w9 from (HB8.out.alloc hsz8 (.cells #[.int .i64 (x1)] 2)).trans (below_blk (HOa.out _) hg9 (Nat.le_refl _) (by simp; omega)))
                  have HO9 := Lib.hid (show OwnI w9 w6.heap.size A9 c9 (hoP n2 r h (i + 1)) from by rw [HSi.out, HGv.out]; exact ho9)
                  clear ho9 hg9 ha9
                  go_wp2
                  go_roundw
                  case rel => exact ⟨i + 1, _, _, by omega, by go_num, rfl, HO9, HB9⟩
                  case measure => simp [intOf]; omega
                · skip
                  have HGv := Lib.hid (show gv = x0 from by rw [HG.out]; rfl)
                  go_wp2_with fail
                  refine (HHi.out).mono ?_
                  rintro e w' ⟨rfl, rfl⟩
                  go_wp2_with (at_builtin; refine wpI_append rfl _ _ rfl w6.heap.size _ _ _ (hoP n2 r h i) (x0) wr.heap.size rfl rfl HLi.out (HOa.out _) (World.cell?_alloc_at _ _ _ _ rfl) (by omega) (by simp; omega) ?_; intro A9 c9 w9 ho9 hg9 ha9)
                  have HB9 := Lib.hid (show Below w6.heap.size w6 w9 from (HB8.out.alloc hsz8 (.cells #[.int .i64 (x0)] 2)).trans (below_blk (HOa.out _) hg9 (Nat.le_refl _) (by simp; omega)))
                  have HO9 := Lib.hid (show OwnI w9 w6.heap.size A9 c9 (hoP n2 r h (i + 1)) from by rw [HSi.out, HGv.out]; exact ho9)
                  clear ho9 hg9 ha9
                  go_wp2
                  go_roundw
                  case rel => exact ⟨i + 1, _, _, by omega, by go_num, rfl, HO9, HB9⟩
                  case measure => simp [intOf]; omega
              · obtain rfl : h1 = i := by omega
                have HBx := Lib.hid (HB.out.trans (((HB6.out.trans (HB8.out.mono hsz6))).mono hsz))
                have HLr := Lib.hid (show (hoP n2 r h h1).length = h1 from hoP_len (m := n2) (r := r) (h := h) (k := h1) (by omega))
                have HOx := Lib.hid ((HO.out.below (HB6.out.trans (HB8.out.mono hsz6))).alloc (.cells #[.slice A8 h1 c8] 52))
                have HIx := Lib.hid ((HO8.out.lower (lo' := w2.heap.size) (by omega)).alloc (.cells #[.slice A8 h1 c8] 52))
                have HAp := Lib.hid (later_apart HO.out (HO8.out.lower (lo' := wo.heap.size) hsz6))
                have HSr := Lib.hid (show hoTo n2 h (r + 1) = hoTo n2 h r ++ [hoP n2 r h h1] by rw [hoTo_succ, ← hoP_all, ← HH1.out])
                have HLt := Lib.hid (hoTo_len n2 h r)
                go_wp2_with (at_builtin; refine wpM_append rfl _ _ rfl w2.heap.size _ _ _ R' (hoTo n2 h r) A8 h1 c8 (hoP n2 r h h1) wr.heap.size rfl rfl HLt.out HLr.out HOx.out HIx.out HAp.out (World.cell?_alloc_at _ _ _ _ rfl) (by omega) (by simp; omega) ?_; intro A9 c9 R9 w9 ho9 hg9 ha9)
                have HB9 := Lib.hid ((HBx.out.alloc HBx.out.size (.cells #[.slice A8 h1 c8] 52)).trans (below_blkM HOx.out hg9 (Nat.le_refl _) (by simp; omega)))
                have HO9 := Lib.hid (show OwnM w9 w2.heap.size A9 c9 R9 (hoTo n2 h (r + 1)) from by rw [HSr.out]; exact ho9)
                clear ho9 hg9 ha9 hcrr
                go_wp2
                go_roundw
                case rel => exact ⟨r + 1, _, _, _, by omega, by go_num, rfl, HO9, HB9⟩
                case measure => simp [intOf]; omega
      · have HV0 := Lib.hid (show hmL n2 r 1 = [(n2 : Int)] by rw [hmL_succ, hPk_odd (by omega)]; rfl)
        have hN1 := HN1.out
        go_wp2_with (at_builtin; refine wpI_append rfl _ _ rfl wo.heap.size _ _ _ [] ((n2 : Int)) (wo.heap.size + 1) rfl rfl rfl (HE.out.alloc (.cells #[.int .i64 ((n2 : Int))] 2)) (World.cell?_alloc_at _ _ _ _ (by simp)) (by omega) (by simp; omega) ?_; intro A5 c5 w5 ho5 hg5 ha5)
        have HB5 := Lib.hid (show Below wo.heap.size wo w5 from (HEb.out.alloc (by simp) (.cells #[.int .i64 ((n2 : Int))] 2)).trans (below_blk (HE.out.alloc (.cells #[.int .i64 ((n2 : Int))] 2)) hg5 (Nat.le_refl _) (by simp; omega)))
        have HO5 := Lib.hid (show OwnI w5 wo.heap.size A5 c5 (hmL n2 r 1) from by rw [HV0.out]; exact ho5)
        clear ho5 hg5 ha5 hcrr
        try clear hN1
        go_wp2
        go_loopw [8, 9] (fun o v wr => ∃ (k : Nat) (A6 : Option Addr) (c6 : Nat), 1 ≤ k ∧ k ≤ h1 ∧ v = .int .i64 k ∧ o = .slice A6 k c6 ∧ Hid (OwnI wr wo.heap.size A6 c6 (hmL n2 r k)) ∧ Hid (Below wo.heap.size wo wr)) (fun _ v _ => h1 - (intOf v).toNat)
        case atStart => exact ⟨1, _, _, Nat.le_refl _, by omega, rfl, rfl, HO5, HB5⟩
        case round =>
          obtain ⟨k, A6, c6, hk1, hk, rfl, rfl, HO6, HB6⟩ := hrel
          have hM1 := HM1.out
          have hsz6 := HB6.out.size
          by_cases hkh : k ≤ h
          · have HLk := Lib.hid (hmL_len n2 r k)
            have HSk := Lib.hid (hmL_succ n2 r k)
            have HOa := Lib.hid (fun (v : Int) => HO6.out.alloc (.cells #[.int .i64 v] 2))
            by_cases hp : (k : Int) % 2 = 1
            · have HPk := Lib.hid (hPk_a (m := n2) (r := r) hk1 (by omega))
              obtain ⟨vk, hvk⟩ : ∃ vk : Int, vk = (((r : Int) + (k : Int)) % (n2 : Int)) := ⟨_, rfl⟩
              have HVk := Lib.hid hvk
              go_wp2_with (at_builtin; refine wpI_append rfl _ _ rfl wo.heap.size _ _ _ (hmL n2 r k) ((((r : Int) + (k : Int)) % (n2 : Int))) wr.heap.size rfl rfl HLk.out (HOa.out _) (World.cell?_alloc_at _ _ _ _ rfl) (by omega) (by simp; omega) ?_; intro A7 c7 w7 ho7 hg7 ha7)
              have HB7 := Lib.hid (show Below wo.heap.size wo w7 from (HB6.out.alloc hsz6 (.cells #[.int .i64 ((((r : Int) + (k : Int)) % (n2 : Int)))] 2)).trans (below_blk (HOa.out _) hg7 (Nat.le_refl _) (by simp; omega)))
              have HO7 := Lib.hid (show OwnI w7 wo.heap.size A7 c7 (hmL n2 r (k + 1)) from by rw [HSk.out, HPk.out]; exact ho7)
              clear ho7 hg7 ha7
              go_wp2
              go_roundw
              case rel => exact ⟨k + 1, _, _, by omega, by omega, by go_num, rfl, HO7, HB7⟩
              case measure => simp [intOf]; omega
            · have HPk := Lib.hid (hPk_b (m := n2) (r := r) hk1 (by omega) (by omega))
              obtain ⟨vk, hvk⟩ : ∃ vk : Int, vk = (((r : Int) - (k : Int)) % (n2 : Int)) := ⟨_, rfl⟩
              have HVk := Lib.hid hvk
              go_wp2_with (at_builtin; refine wpI_append rfl _ _ rfl wo.heap.size _ _ _ (hmL n2 r k) ((((r : Int) - (k : Int)) % (n2 : Int))) wr.heap.size rfl rfl HLk.out (HOa.out _) (World.cell?_alloc_at _ _ _ _ rfl) (by omega) (by simp; omega) ?_; intro A7 c7 w7 ho7 hg7 ha7)
              have HB7 := Lib.hid (show Below wo.heap.size wo w7 from (HB6.out.alloc hsz6 (.cells #[.int .i64 ((((r : Int) - (k : Int)) % (n2 : Int)))] 2)).trans (below_blk (HOa.out _) hg7 (Nat.le_refl _) (by simp; omega)))
              have HO7 := Lib.hid (show OwnI w7 wo.heap.size A7 c7 (hmL n2 r (k + 1)) from by rw [HSk.out, HPk.out]; exact ho7)
              clear ho7 hg7 ha7
              go_wp2
              go_roundw
              case rel => exact ⟨k + 1, _, _, by omega, by omega, by go_num, rfl, HO7, HB7⟩
              case measure => simp [intOf]; omega
          · obtain rfl : h1 = k := by omega
            have hcrr := ((HB.out.trans (HB6.out.mono hsz)).cell (p := ⟨g2, r, none⟩) hg2).trans HCr.out
            have HEr := Lib.hid ((OwnI.lit0 wr hsz6).alloc (.cells #[] 2))
            obtain ⟨w6, rfl⟩ : ∃ w6, w6 = wr := ⟨_, rfl⟩
            have HE6 := Lib.hid (OwnI.lit0 w6 (Nat.le_refl w6.heap.size))
            have HEb6 := Lib.hid ((Below.refl w6.heap.size w6).alloc (Nat.le_refl _) (.cells #[] 2))
            have HHas := Lib.hid (fun (W : World) (hb : Below w6.heap.size w6 W) (x : Int) => has_c W A6 h1 c6 (hmL n2 r h1) x ((HO6.out.below hb).rd) (hmL_len n2 r h1))
            go_wp2
            clear hcrr hM1
            go_loopw [10, 11] (fun o v wr => ∃ (i : Nat) (A8 : Option Addr) (c8 : Nat), i ≤ h1 ∧ v = .int .i64 i ∧ o = .slice A8 i c8 ∧ Hid (OwnI wr w6.heap.size A8 c8 (hoP n2 r h i)) ∧ Hid (Below w6.heap.size w6 wr)) (fun _ v _ => h1 - (intOf v).toNat)
            case atStart => exact ⟨0, _, _, Nat.zero_le _, rfl, rfl, HE6, HEb6⟩
            case round =>
              obtain ⟨i, A8, c8, hi, rfl, rfl, HO8, HB8⟩ := hrel
              have hsz8 := HB8.out.size
              have HBw := Lib.hid (HB.out.trans ((HB6.out.trans (HB8.out.mono hsz6)).mono hsz))
              have hcrr := (HBw.out.cell (p := ⟨g2, r, none⟩) hg2).trans HCr.out
              by_cases hih : i < h1
              · have hil : i < (hL n2 r h).length := by rw [hL_len]; omega
                have hlr : (row (hL n2 r h) i).length = 2 := hL_two (m := n2) (r := r) (h := h) (by rw [row_eq hil]; exact List.getElem_mem _)
                obtain ⟨b, off, e, hb, hcl⟩ := HRw.out.at_ i hil
                obtain ⟨b2, off2, e2, hb2, hcl0⟩ := (HRw.out.rows i hil).at_ 0 (by omega)
                obtain ⟨b3, off3, e3, hb3, hcl1⟩ := (HRw.out.rows i hil).at_ 1 (by omega)
                rw [e2] at e3
                injection e3 with e3
                injection e3 with e3 e4
                subst e3 e4
                have hclr := (HBw.out.cell (p := ⟨b, off + i, none⟩) hb).trans hcl
                have hcr0 := (HBw.out.cell (p := ⟨b2, off2 + 0, none⟩) hb2).trans hcl0
                have hcr1 := (HBw.out.cell (p := ⟨b2, off2 + 1, none⟩) hb2).trans hcl1
                rw [show off2 + 0 = off2 by omega] at hcr0
                rw [hlr, e2] at hclr
                rw [e] at hcrr
                have hi0 : (0 : Int) ≤ (i : Int) := by omega
                have hi1 : (i : Int) < (h1 : Int) := by omega
                have HSi := Lib.hid (hoP_succ (m := n2) (r := r) (h := h) (k := i) (by omega))
                have HLi := Lib.hid (hoP_len (m := n2) (r := r) (h := h) (k := i) (by omega))
                have HHi := Lib.hid (HHas.out wr HB8.out (nth (row (hL n2 r h) i) 0))
                have HG := Lib.hid (show hG n2 r h (row (hL n2 r h) i) = if hasB (hmL n2 r h1) (nth (row (hL n2 r h) i) 0) = true then nth (row (hL n2 r h) i) 0 else nth (row (hL n2 r h) i) 1 from by rw [HH1.out]; rfl)
                have HOa := Lib.hid (fun (v : Int) => HO8.out.alloc (.cells #[.int .i64 v] 2))
                clear hcl hcl0 hcl1 hlr hil e e2 hb hb2 hb3
                generalize nth (row (hL n2 r h) i) 0 = x0 at *
                generalize nth (row (hL n2 r h) i) 1 = x1 at *
                generalize hG n2 r h (row (hL n2 r h) i) = gv at *
                generalize hasB (hmL n2 r h1) x0 = tv at *
                rcases tv with _ | _
                · skip
                  have HGv := Lib.hid (show gv = x1 from by rw [HG.out]; rfl)
                  go_wp2_with fail
                  refine (HHi.out).mono ?_
                  rintro e w' ⟨rfl, rfl⟩
                  go_wp2_with (at_builtin; refine wpI_append rfl _ _ rfl w6.heap.size _ _ _ (hoP n2 r h i) (x1) wr.heap.size rfl rfl HLi.out (HOa.out _) (World.cell?_alloc_at _ _ _ _ rfl) (by omega) (by simp; omega) ?_; intro A9 c9 w9 ho9 hg9 ha9)
                  have HB9 := Lib.hid (show Below w6.heap.size w6 w9 from (HB8.out.alloc hsz8 (.cells #[.int .i64 (x1)] 2)).trans (below_blk (HOa.out _) hg9 (Nat.le_refl _) (by simp; omega)))
                  have HO9 := Lib.hid (show OwnI w9 w6.heap.size A9 c9 (hoP n2 r h (i + 1)) from by rw [HSi.out, HGv.out]; exact ho9)
                  clear ho9 hg9 ha9
                  go_wp2
                  go_roundw
                  case rel => exact ⟨i + 1, _, _, by omega, by go_num, rfl, HO9, HB9⟩
                  case measure => simp [intOf]; omega
                · skip
                  have HGv := Lib.hid (show gv = x0 from by rw [HG.out]; rfl)
                  go_wp2_with fail
                  refine (HHi.out).mono ?_
                  rintro e w' ⟨rfl, rfl⟩
                  go_wp2_with (at_builtin; refine wpI_append rfl _ _ rfl w6.heap.size _ _ _ (hoP n2 r h i) (x0) wr.heap.size rfl rfl HLi.out (HOa.out _) (World.cell?_alloc_at _ _ _ _ rfl) (by omega) (by simp; omega) ?_; intro A9 c9 w9 ho9 hg9 ha9)
                  have HB9 := Lib.hid (show Below w6.heap.size w6 w9 from (HB8.out.alloc hsz8 (.cells #[.int .i64 (x0)] 2)).trans (below_blk (HOa.out _) hg9 (Nat.le_refl _) (by simp; omega)))
                  have HO9 := Lib.hid (show OwnI w9 w6.heap.size A9 c9 (hoP n2 r h (i + 1)) from by rw [HSi.out, HGv.out]; exact ho9)
                  clear ho9 hg9 ha9
                  go_wp2
                  go_roundw
                  case rel => exact ⟨i + 1, _, _, by omega, by go_num, rfl, HO9, HB9⟩
                  case measure => simp [intOf]; omega
              · obtain rfl : h1 = i := by omega
                have HBx := Lib.hid (HB.out.trans (((HB6.out.trans (HB8.out.mono hsz6))).mono hsz))
                have HLr := Lib.hid (show (hoP n2 r h h1).length = h1 from hoP_len (m := n2) (r := r) (h := h) (k := h1) (by omega))
                have HOx := Lib.hid ((HO.out.below (HB6.out.trans (HB8.out.mono hsz6))).alloc (.cells #[.slice A8 h1 c8] 52))
                have HIx := Lib.hid ((HO8.out.lower (lo' := w2.heap.size) (by omega)).alloc (.cells #[.slice A8 h1 c8] 52))
                have HAp := Lib.hid (later_apart HO.out (HO8.out.lower (lo' := wo.heap.size) hsz6))
                have HSr := Lib.hid (show hoTo n2 h (r + 1) = hoTo n2 h r ++ [hoP n2 r h h1] by rw [hoTo_succ, ← hoP_all, ← HH1.out])
                have HLt := Lib.hid (hoTo_len n2 h r)
                go_wp2_with (at_builtin; refine wpM_append rfl _ _ rfl w2.heap.size _ _ _ R' (hoTo n2 h r) A8 h1 c8 (hoP n2 r h h1) wr.heap.size rfl rfl HLt.out HLr.out HOx.out HIx.out HAp.out (World.cell?_alloc_at _ _ _ _ rfl) (by omega) (by simp; omega) ?_; intro A9 c9 R9 w9 ho9 hg9 ha9)
                have HB9 := Lib.hid ((HBx.out.alloc HBx.out.size (.cells #[.slice A8 h1 c8] 52)).trans (below_blkM HOx.out hg9 (Nat.le_refl _) (by simp; omega)))
                have HO9 := Lib.hid (show OwnM w9 w2.heap.size A9 c9 R9 (hoTo n2 h (r + 1)) from by rw [HSr.out]; exact ho9)
                clear ho9 hg9 ha9 hcrr
                go_wp2
                go_roundw
                case rel => exact ⟨r + 1, _, _, _, by omega, by go_num, rfl, HO9, HB9⟩
                case measure => simp [intOf]; omega
    · obtain rfl : r = n2 := by omega
      have HLn := Lib.hid (hoTo_len r h r)
      have HBf := Lib.hid (HB2.out.trans (HB.out.mono HB2.out.size))
      have HOf := Lib.hid (HO.out.lower (lo' := w.heap.size) HB2.out.size)
      go_wp2
      go_ret2
      exact ⟨⟨A', r, c', R', rfl, HLn.out, HOf.out⟩, HBf.out⟩
end Go.Proofs.Ytcdbbcnoleilfaa
