/-
  Permutations and images of sets: l04Ok and l04Image of the reference, ValidPermutation and image of the program. Conditions: those of each theorem.
-/
import Derived.Test.YtdcegepkgcflpaaRelP
import Derived.IntWalk
namespace Go.Proofs.Ytdcegepkgcflpaa
open Go.RowKit
set_option linter.unusedVariables false
set_option linter.unusedSimpArgs false

set_option maxHeartbeats 4000000 in
theorem l04Ok_c (w : World) (A : Option Addr) (n c : Nat) (p : List Int) (hr : RdI w A c p) (hn : p.length = n) :
    Calls Try.prog 81 #[.slice A n c] w (EndQ (.bool (permB p)) w) := by
  have hnc : n ≤ c := by have := hr.le; omega
  have hm : n ≤ 9223372036854775807 := by have h1 := hr.le; have h2 := hr.cap; unfold maxLen at h2; omega
  obtain ⟨T, hT⟩ : ∃ T, T = permB p := ⟨_, rfl⟩
  rw [← hT]
  have HT := Lib.hid hT
  have HR := Lib.hid hr
  have HN := Lib.hid hn
  clear hr hn hT
  by_cases h32 : n ≤ 32
  rotate_left
  · have hd : decide ((32 : Int) < (n : Int)) = true := by simp; omega
    have hd2 : (32 : Int) < (n : Int) := by omega
    have HF := Lib.hid (show T = false by rw [HT.out]; unfold permB; exact decide_eq_false (fun h => by have := HN.out; omega))
    clear h32
    go_enter Try.func81, Try.ntmps81
    go_wp2
    go_ret
    exact ⟨ret_b HF.out.symm, 0, rfl⟩
  · have hd : decide ((32 : Int) < (n : Int)) = false := by simp; omega
    go_enter Try.func81, Try.ntmps81
    go_wp2
    go_loopw [3] (fun v wr => ∃ k : Nat, k ≤ n ∧ v = .int .i64 k ∧ Hid (∀ i, i < k → okAt p i) ∧ Qt w wr) (fun v _ => n - (intOf v).toNat)
    case atStart => exact ⟨0, Nat.zero_le _, rfl, Lib.hid (fun i hi => absurd hi (by omega)), Qt.refl _⟩
    case round =>
      obtain ⟨k, hk, rfl, HOk, hq⟩ := hrel
      obtain ⟨m0, hm0⟩ := hq
      have HQ := Lib.hid hm0
      have HRw := Lib.hid (show RdI wr A c p by rw [hm0]; exact HR.out.drewN m0)
      clear hm0
      by_cases hlt : k < n
      · have hkx : k < p.length := by rw [HN.out]; exact hlt
        obtain ⟨b, off, e, hb, hc⟩ := HRw.out.at_ k hkx
        subst e
        have HTk := Lib.hid (show (p.take k).length = k by rw [List.length_take]; omega)
        have HIn := Lib.hid (fun W => in_c (nth p k) 0 ((n : Int) - 1) W)
        have HHas := Lib.hid (fun q => has_c (wr.drewN q) (some ⟨b, off, none⟩) k c (p.take k) (nth p k) ((HRw.out.take_ k).drewN q) HTk.out)
        have hk1 : (0 : Int) ≤ (k : Int) := by omega
        have hk2 : (k : Int) < (n : Int) := by omega
        have hk3 : (k : Int) ≤ (c : Int) := by omega
        clear hb
        rcases hin : inB (nth p k) 0 ((n : Int) - 1) with _ | _
        · have HF := Lib.hid (show T = false by
            rw [HT.out]
            exact perm_no hkx fun h => inB_false.1 hin (by rw [← HN.out]; exact h.1))
          rw [hin] at HIn
          clear hin
          have hw1 : IntKind.i64.wrap ((n : Int) - 1) = (n : Int) - 1 := IntWalk.i64_in _ (by omega)
          go_wp2
          go_quiet ((first | (go_at_call 66; exact quiet_n (HIn.out _)) | (go_at_call 100; exact quiet_n (HHas.out _))))
          clear hw1
          go_wp2
          go_ret
          exact ⟨ret_b HF.out.symm, m0 + nq, by rw [HQ.out, World.drewN_drewN]⟩
        · have HIb := Lib.hid (inB_true.1 hin)
          rw [hin] at HIn
          clear hin
          rcases hh : hasB (p.take k) (nth p k) with _ | _
          · rw [hh] at HHas
            have HOk' := Lib.hid (show ∀ i, i < k + 1 → okAt p i from fun i hi => by
              by_cases e : i = k
              · subst e; exact ⟨by rw [HN.out]; exact HIb.out, hh⟩
              · exact HOk.out i (by omega))
            clear hh
            have hw1 : IntKind.i64.wrap ((n : Int) - 1) = (n : Int) - 1 := IntWalk.i64_in _ (by omega)
            go_wp2
            go_quiet ((first | (go_at_call 66; exact quiet_n (HIn.out _)) | (go_at_call 100; exact quiet_n (HHas.out _))))
            clear hw1
            go_wp2
            go_roundw
            case rel => exact ⟨k + 1, by omega, by go_num, HOk', m0 + nq, by rw [HQ.out, World.drewN_drewN]⟩
            case measure => simp [intOf]; omega
          · rw [hh] at HHas
            have HF := Lib.hid (show T = false by
              rw [HT.out]
              exact perm_no hkx fun h => by have := h.2; rw [hh] at this; cases this)
            clear hh
            have hw1 : IntKind.i64.wrap ((n : Int) - 1) = (n : Int) - 1 := IntWalk.i64_in _ (by omega)
            go_wp2
            go_quiet ((first | (go_at_call 66; exact quiet_n (HIn.out _)) | (go_at_call 100; exact quiet_n (HHas.out _))))
            clear hw1
            go_wp2
            go_ret
            exact ⟨ret_b HF.out.symm, m0 + nq, by rw [HQ.out, World.drewN_drewN]⟩
      · obtain rfl : k = n := by omega
        have HF := Lib.hid (show T = true by rw [HT.out]; exact perm_iff.2 ⟨by rw [HN.out]; exact h32, fun i hi => HOk.out i (by rw [← HN.out]; exact hi)⟩)
        go_wp2
        go_ret
        exact ⟨ret_b HF.out.symm, m0, HQ.out⟩

set_option maxHeartbeats 4000000 in
theorem ValidPermutation_c (w : World) (A : Option Addr) (n c : Nat) (p : List Int) (hr : RdI w A c p) (hn : p.length = n) (hz : n ≤ 1048576) :
    Calls Try.prog 89 #[.slice A n c] w (PostV w (.bool (permB p))) := by
  have HCl := Lib.hid (Clone_n w A n c p hr hn hz)
  obtain ⟨T, hT⟩ : ∃ T, T = permB p := ⟨_, rfl⟩
  rw [← hT]
  have HT := Lib.hid hT
  have HN := Lib.hid hn
  have HSl := Lib.hid (show (sortL p).length = n by rw [sortL_len]; exact hn)
  clear hr hn hT
  go_enter Try.func89, Try.ntmps89
  go_wp2_with fail
  refine (HCl.out).mono ?_
  rintro e w2 ⟨⟨A2, n2, c2, rfl, hn2, ho2⟩, hb2⟩
  obtain rfl : n2 = n := hn2.symm.trans HN.out
  have HSo := Lib.hid (sort_c w2 ho2 hn2 hz)
  have HO2 := Lib.hid ho2
  have HB2 := Lib.hid hb2
  clear ho2 hb2 hn2
  go_wp2_with fail
  refine (HSo.out).mono ?_
  rintro e w4 ⟨rfl, ho4, hg4⟩
  have HB4 := Lib.hid (HB2.out.trans (below_blk HO2.out hg4 (Nat.le_refl _) HB2.out.size))
  have HO4 := Lib.hid ho4
  clear ho4 hg4
  go_wp2
  go_loopw [12] (fun v wr => ∃ k : Nat, k ≤ n2 ∧ v = .int .i64 k ∧ Hid (∀ i, i < k → nth (sortL p) i = (i : Int)) ∧ wr = w4) (fun v _ => n2 - (intOf v).toNat)
  case atStart => exact ⟨0, Nat.zero_le _, rfl, Lib.hid (fun i hi => absurd hi (by omega)), rfl⟩
  case round =>
    obtain ⟨k, hk, rfl, HEq, rfl⟩ := hrel
    by_cases hlt : k < n2
    · have hkx : k < (sortL p).length := by rw [HSl.out]; exact hlt
      obtain ⟨b, off, e, hb, hc⟩ := HO4.out.rd.at_ k hkx
      subst e
      by_cases he : nth (sortL p) k = (k : Int)
      · rw [he] at hc
        have HEq' := Lib.hid (show ∀ i, i < k + 1 → nth (sortL p) i = (i : Int) from fun i hi => by
          by_cases e : i = k
          · subst e; exact he
          · exact HEq.out i (by omega))
        clear he
        go_wp2
        go_roundw
        case rel => exact ⟨k + 1, by omega, by go_num, HEq', trivial⟩
        case measure => simp [intOf]; omega
      · have hd : (nth (sortL p) k == (k : Int)) = false := by simp [he]
        have HF := Lib.hid (show T = false by
          rw [HT.out]
          unfold permB
          refine decide_eq_false fun h => he ?_
          rw [h.2, idL_nth (by rw [HN.out]; exact hlt)])
        clear he
        generalize nth (sortL p) k = x at *
        go_wp2
        go_ret
        exact ⟨ret_b HF.out.symm, HB4.out⟩
    · obtain rfl : k = n2 := by omega
      have HF := Lib.hid (show T = decide (k ≤ 32) by
        rw [HT.out]
        unfold permB
        have h1 : sortL p = idL p.length := id_ext (by rw [sortL_len]) fun i hi => HEq.out i (by rw [← HN.out]; exact hi)
        by_cases h : k ≤ 32
        · rw [decide_eq_true h]; exact decide_eq_true ⟨by rw [HN.out]; exact h, h1⟩
        · rw [decide_eq_false h]; exact decide_eq_false fun h2 => h (by rw [← HN.out]; exact h2.1))
      by_cases h : k ≤ 32
      · rw [decide_eq_true h] at HF
        have hd : decide ((k : Int) ≤ 32) = true := by simp; omega
        go_wp2
        go_ret
        exact ⟨ret_b HF.out.symm, HB4.out⟩
      · rw [decide_eq_false h] at HF
        have hd : decide ((k : Int) ≤ 32) = false := by simp; omega
        go_wp2
        go_ret
        exact ⟨ret_b HF.out.symm, HB4.out⟩

set_option maxHeartbeats 4000000 in
theorem l04Image_c (w : World) (A B : Option Addr) (n m c d : Nat) (p bl : List Int) (hr : RdI w A c p) (hn : p.length = n) (hb : RdI w B d bl) (hm : bl.length = m) (hz : m ≤ 1000) (hin : ∀ k, k < m → 0 ≤ nth bl k ∧ nth bl k < (n : Int)) :
    Calls Try.prog 76 #[.slice A n c, .slice B m d] w (PostS w (imL p bl)) := by
  have HR := Lib.hid hr
  have HN := Lib.hid hn
  have HBl := Lib.hid hb
  have HM := Lib.hid hm
  have HIn := Lib.hid hin
  have H0 := Lib.hid (OwnI.lit0 w (Nat.le_refl w.heap.size))
  have HBz := Lib.hid ((Below.refl w.heap.size w).alloc (Nat.le_refl _) (.cells #[] 2))
  clear hr hn hb hm hin
  go_enter Try.func76, Try.ntmps76
  go_wp2
  go_loopw [5, 6] (fun o v wr => ∃ (k s : Nat) (A' : Option Addr) (c' : Nat), k ≤ m ∧ v = .int .i64 k ∧ o = .slice A' s c' ∧ Hid ((putsTo (imF p bl) k).length = s) ∧ Hid (OwnI wr w.heap.size A' c' (putsTo (imF p bl) k)) ∧ Hid (Below w.heap.size w wr)) (fun _ v _ => m - (intOf v).toNat)
  case atStart => exact ⟨0, 0, _, _, Nat.zero_le _, rfl, rfl, Lib.hid rfl, H0, HBz⟩
  case round =>
    obtain ⟨k, s, A', c', hk, rfl, rfl, HS, HO, HB⟩ := hrel
    have hsz := HB.out.size
    by_cases hlt : k < m
    · have hkx : k < bl.length := by rw [HM.out]; exact hlt
      obtain ⟨b0, off, e, hb, hc⟩ := HBl.out.at_ k hkx
      subst e
      have hcc := (HB.out.cell (p := ⟨b0, off + k, none⟩) hb).trans hc
      obtain ⟨hx0, hx1⟩ := HIn.out k hlt
      obtain ⟨x, hx⟩ : ∃ x : Nat, nth bl k = (x : Int) := ⟨(nth bl k).toNat, by omega⟩
      have HF := Lib.hid (show imF p bl k = nth p x by unfold imF; rw [hx]; rfl)
      rw [hx] at hcc hx0 hx1
      have hxn : x < n := by omega
      obtain ⟨b1, off1, e1, hb1, hc1⟩ := HR.out.at_ x (by rw [HN.out]; exact hxn)
      subst e1
      have hcc1 := (HB.out.cell (p := ⟨b1, off1 + x, none⟩) hb1).trans hc1
      have hsk : s ≤ k := by have := putsTo_len (imF p bl) k; have := HS.out; omega
      have HPu := Lib.hid (l00Put_c wr A' s c' (putsTo (imF p bl) k) (nth p x) HO.out.rd HS.out (by omega))
      have HSu := Lib.hid (show putL (putsTo (imF p bl) k) (nth p x) = putsTo (imF p bl) (k + 1) by rw [← HF.out]; rfl)
      clear hc hx hc1
      generalize nth p x = y at *
      go_wp2_with fail
      refine (HPu.out).mono ?_
      rintro e w4 ⟨⟨A4, n4, c4, rfl, hn4, ho4⟩, hb4⟩
      rw [HSu.out] at hn4 ho4
      have HS4 := Lib.hid hn4
      have HO4 := Lib.hid (ho4.lower (lo' := w.heap.size) hsz)
      have HB4 := Lib.hid (HB.out.trans (hb4.mono hsz))
      clear hn4 ho4 hb4
      go_wp2
      go_roundw
      case rel => exact ⟨k + 1, n4, A4, c4, by omega, by go_num, rfl, HS4, HO4, HB4⟩
      case measure => simp [intOf]; omega
    · obtain rfl : k = m := by omega
      have HSf := Lib.hid (show (imL p bl).length = s from by unfold imL; rw [HM.out]; exact HS.out)
      have HOf := Lib.hid (show OwnI wr w.heap.size A' c' (imL p bl) from by unfold imL; rw [HM.out]; exact HO.out)
      go_wp2
      go_ret
      exact ⟨⟨A', s, c', rfl, HSf.out, HOf.out⟩, HB.out⟩

set_option maxHeartbeats 4000000 in
theorem image_c (w : World) (A B : Option Addr) (n m c d : Nat) (p bl : List Int) (hr : RdI w A c p) (hn : p.length = n) (hb : RdI w B d bl) (hm : bl.length = m) (hz : m ≤ 1000) (hin : ∀ k, k < m → 0 ≤ nth bl k ∧ nth bl k < (n : Int)) (he : imL p bl = sortL ((List.range m).map (imF p bl))) :
    Calls Try.prog 80 #[.slice A n c, .slice B m d] w (PostS w (imL p bl)) := by
  have HR := Lib.hid hr
  have HN := Lib.hid hn
  have HBl := Lib.hid hb
  have HM := Lib.hid hm
  have HIn := Lib.hid hin
  have HE := Lib.hid he
  have H0 := Lib.hid (OwnI.nil_ w w.heap.size)
  have HBz := Lib.hid (Below.refl w.heap.size w)
  clear hr hn hb hm hin he
  obtain ⟨F, hF⟩ : ∃ F : Nat → List Int, F = fun k => (List.range k).map (imF p bl) := ⟨_, rfl⟩
  have HF0 := Lib.hid (show F 0 = [] by rw [hF]; rfl)
  have HFs := Lib.hid (fun k => show F (k + 1) = F k ++ [imF p bl k] by rw [hF]; exact range_succ_map _ _)
  have HFl := Lib.hid (fun k => show (F k).length = k by rw [hF]; simp)
  have HFm := Lib.hid (show sortL (F m) = imL p bl by rw [HE.out, hF])
  clear hF HE
  rw [← HF0.out] at H0
  go_enter Try.func80, Try.ntmps80
  go_wp2
  go_loopw [5, 10] (fun o v wr => ∃ (k : Nat) (A' : Option Addr) (c' : Nat), k ≤ m ∧ v = .int .i64 k ∧ o = .slice A' k c' ∧ Hid (OwnI wr w.heap.size A' c' (F k)) ∧ Hid (Below w.heap.size w wr)) (fun _ v _ => m - (intOf v).toNat)
  case atStart => exact ⟨0, _, _, Nat.zero_le _, rfl, rfl, H0, HBz⟩
  case round =>
    obtain ⟨k, A', c', hk, rfl, rfl, HO, HB⟩ := hrel
    have hsz := HB.out.size
    by_cases hlt : k < m
    · have hkx : k < bl.length := by rw [HM.out]; exact hlt
      obtain ⟨b0, off, e, hb, hc⟩ := HBl.out.at_ k hkx
      subst e
      have hcc := (HB.out.cell (p := ⟨b0, off + k, none⟩) hb).trans hc
      obtain ⟨hx0, hx1⟩ := HIn.out k hlt
      obtain ⟨x, hx⟩ : ∃ x : Nat, nth bl k = (x : Int) := ⟨(nth bl k).toNat, by omega⟩
      have HF := Lib.hid (show imF p bl k = nth p x by unfold imF; rw [hx]; rfl)
      rw [hx] at hcc hx0 hx1
      have hxn : x < n := by omega
      obtain ⟨b1, off1, e1, hb1, hc1⟩ := HR.out.at_ x (by rw [HN.out]; exact hxn)
      subst e1
      have hcc1 := (HB.out.cell (p := ⟨b1, off1 + x, none⟩) hb1).trans hc1
      have HSu := Lib.hid (show F k ++ [nth p x] = F (k + 1) by rw [HFs.out, HF.out])
      have HLk := Lib.hid (HFl.out k)
      clear hc hx hc1
      generalize nth p x = y at *
      go_wp2_with (at_builtin; refine wpI_append rfl _ _ rfl w.heap.size _ _ _ (F k) (y) wr.heap.size rfl rfl HLk.out (HO.out.alloc (.cells #[.int .i64 (y)] 2)) (World.cell?_alloc_at _ _ _ _ rfl) (by omega) (by simp; omega) ?_; intro A3 c3 w3 ho3 hg3 ha3)
      have hB3 : Below w.heap.size w w3 := (HB.out.alloc HB.out.size (.cells #[.int .i64 (y)] 2)).trans (below_blk (HO.out.alloc (.cells #[.int .i64 (y)] 2)) hg3 (Nat.le_refl _) (by simp; omega))
      have HO3 := Lib.hid ho3
      have HB3 := Lib.hid hB3
      clear ho3 hg3 ha3 hB3
      have HO4 := Lib.hid (show OwnI w3 w.heap.size A3 c3 (F (k + 1)) from by rw [← HSu.out]; exact HO3.out)
      go_wp2
      go_roundw
      case rel => exact ⟨k + 1, A3, c3, by omega, by go_num, rfl, HO4, HB3⟩
      case measure => simp [intOf]; omega
    · obtain rfl : k = m := by omega
      have HSo := Lib.hid (sort_c wr HO.out (HFl.out k) (by omega))
      have HL := Lib.hid (show (imL p bl).length = k by rw [← HFm.out, sortL_len]; exact HFl.out k)
      go_wp2_with fail
      refine (HSo.out).mono ?_
      rintro e w2 ⟨rfl, ho2, hg2⟩
      have HB2 := Lib.hid (HB.out.trans (below_blk HO.out hg2 (Nat.le_refl _) HB.out.size))
      have HO2 := Lib.hid (show OwnI w2 w.heap.size A' c' (imL p bl) from by rw [← HFm.out]; exact ho2)
      clear ho2 hg2
      go_wp2
      go_ret
      exact ⟨⟨A', k, c', rfl, HL.out, HO2.out⟩, HB2.out⟩
end Go.Proofs.Ytdcegepkgcflpaa
