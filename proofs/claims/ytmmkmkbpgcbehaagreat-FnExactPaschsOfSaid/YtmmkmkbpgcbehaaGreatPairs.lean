/-
  How many blocks hold two points, and one: pairCounts, replicationsOf of the program, l10Pairs, l10Replications of the reference. Conditions: those of each theorem.
-/
import Derived.Test.YtmmkmkbpgcbehaaGreatPairsP
namespace Go.Proofs.YtmmkmkbpgcbehaaGreat
open Go.RowKit
set_option linter.unusedVariables false
set_option linter.unusedSimpArgs false

theorem emptySq1_c (W : World) (x y : Int) : Calls Tryz.prog 96 #[.int .i64 x, .int .i64 y] W (PostV W (.int .i64 0)) := by
  go_enter Tryz.func96, Tryz.ntmps96
  go_wp2
  go_ret
  exact ⟨rfl, Below.refl _ _⟩
theorem emptySquare_c (w : World) (m : Nat) (hm : m ≤ 1048576) : Calls Tryz.prog 83 #[.int .i64 (m : Int)] w (PostM w (sqTo (fun _ _ => 0) m m)) := by
  have HC := Lib.hid (filledSquare_c w (m : Int) m 96 #[] (fun _ _ => 0) (enters_of Tryz.func96 (by kernel_rfl) rfl) (by omega) hm (fun W x y _ _ _ => emptySq1_c W x y))
  go_enter Tryz.func83, Tryz.ntmps83
  go_wp2_with fail
  refine (HC.out).mono ?_
  rintro e w' ⟨⟨A, n, c, R, rfl, hn, ho⟩, hb⟩
  have HN := Lib.hid hn
  have HO := Lib.hid ho
  clear hn ho
  go_wp2
  go_ret
  exact ⟨⟨A, n, c, R, rfl, HN.out, HO.out⟩, hb⟩

/-- The rest of a slice that reads. -/
theorem RdI.drop {w : World} {b off c : Nat} {xs : List Int} (h : RdI w (some ⟨b, off, none⟩) c xs) (k : Nat) : RdI w (some ⟨b, off + k, none⟩) (c - k) (xs.drop k) :=
  ⟨by rw [List.length_drop]; have := h.le; omega, by have := h.cap; omega, fun j hj => by
    rw [List.length_drop] at hj
    obtain ⟨b', o', e, hb, hc⟩ := h.at_ (k + j) (by omega)
    injection e with e
    injection e with e1 e2
    subst e1 e2
    refine ⟨b, off + k, rfl, hb, ?_⟩
    rw [show off + k + j = off + (k + j) by omega, hc]
    simp [nth, List.getElem?_drop]⟩

set_option maxHeartbeats 4000000 in
theorem replicationsOf_c (w : World) (P : Nat) (A : Option Addr) (n c : Nat) (R : Spine) (xss : List (List Int)) (hr : RdM w A c R xss) (hn : xss.length = n) (hD : DsgOk (P : Int) xss) :
    Calls Tryz.prog 81 #[.agg #[.int .i64 (P : Int), .slice A n c]] w (PostS w (rpS P xss n)) := by
  have hP1 : 1 ≤ P := by have := hD.1.1; omega
  have hP2 : P ≤ 32 := by have := hD.1.2; omega
  have hn1 : n ≤ 128 := by have := hD.2.1; omega
  have hB0 := below_boxed w (.cells #[.int .i64 (P : Int), .slice A n c] 28)
  have hX := BoxD.made w (P : Int) A n c 28
  have hmk := fun W : World => run_make_row' (P := Tryz.prog) 35 2 (.int .i64 0) 8 Tryz.underlying35 infoI rfl .i64 .i64 P (by omega) (by omega) W
  have H0 := Lib.hid (OwnI.made (w.alloc (.cells #[.int .i64 (P : Int), .slice A n c] 28)) P (by unfold maxLen; omega) (lo := w.heap.size) (by simp))
  have HB1 := Lib.hid (hB0.alloc (by simp) (.cells (madeCells #[.int .i64 0] P) 2))
  have HR := Lib.hid hr
  have HN := Lib.hid hn
  have HD := Lib.hid hD
  have HL := Lib.hid (fun k hk => Nat.le_trans (setB_len (hD.rows k hk)) hP2)
  have HUp := Lib.hid (UpT.rpS (P := P) (xss := xss) HL.out)
  have hc0 := hX.c0
  have hc1 := hX.c1
  have HB1' := Lib.hid (show Below w.heap.size w ((w.alloc (.cells #[.int .i64 (P : Int), .slice A n c] 28)).alloc (.cells (madeCells #[.int .i64 0] P) 2)) from HB1.out)
  clear hB0 hX hr hn hD
  go_enter Tryz.func81, Tryz.ntmps81
  go_wp2
  clear hmk hc0 hc1
  have hG : (w.alloc (.cells #[.int .i64 (P : Int), .slice A n c] 28)).heap.size = w.heap.size + 1 := by simp
  have HO0 := Lib.hid (show OwnI ((w.alloc (.cells #[.int .i64 (P : Int), .slice A n c] 28)).alloc (.cells (madeCells #[.int .i64 0] P) 2)) w.heap.size (some ⟨w.heap.size + 1, 0, none⟩) P (rpS P xss 0) by rw [← hG]; exact H0.out)
  clear H0 hG HB1
  generalize ((w.alloc (.cells #[.int .i64 (P : Int), .slice A n c] 28)).alloc (.cells (madeCells #[.int .i64 0] P) 2)) = w0 at *
  go_loopw [14] (fun i wr => ∃ k : Nat, k ≤ n ∧ i = .int .i64 k ∧ Hid (OwnI wr w.heap.size (some ⟨w.heap.size + 1, 0, none⟩) P (rpS P xss k)) ∧ Hid (Below w.heap.size w wr)) (fun i _ => n - (intOf i).toNat)
  case atStart => exact ⟨0, Nat.zero_le _, rfl, HO0, HB1'⟩
  case round =>
    obtain ⟨k, hk, rfl, HO, HB⟩ := hrel
    by_cases hlt : k < n
    · have hkx : k < xss.length := by rw [HN.out]; exact hlt
      obtain ⟨b, off, e, hb, hc⟩ := HR.out.at_ k hkx
      subst e
      have hcc := (HB.out.cell (p := ⟨b, off + k, none⟩) hb).trans hc
      obtain ⟨s, hs⟩ : ∃ s, s = row xss k := ⟨_, rfl⟩
      have hrs := HR.out.rows k hkx
      rw [← hs] at hcc hrs
      have hlen := HL.out k hkx
      obtain ⟨q, hq⟩ : ∃ q, q = s.length := ⟨_, rfl⟩
      rw [← hs, ← hq] at hlen
      rw [← hq] at hcc
      have HQ := Lib.hid hq
      have HS := Lib.hid hs
      have HRs := Lib.hid hrs
      have hupk := HUp.out k (by omega)
      have HUk := Lib.hid hupk
      have HBd := Lib.hid (show ∀ j, j < q → 0 ≤ nth s j ∧ nth s j < (P : Int) from fun j hj => by rw [hs]; exact rowOk HD.out hkx (by rw [← hs, ← hq]; exact hj))
      clear hc hs hrs hq hupk
      go_wp2
      obtain ⟨wo, hwo⟩ : ∃ wo, wo = wr := ⟨_, rfl⟩
      rw [← hwo] at HB HO hcc ⊢
      clear hwo
      go_loopw [20] (fun i wr => ∃ j : Nat, j ≤ q ∧ i = .int .i64 j ∧ Hid (OwnI wr w.heap.size (some ⟨w.heap.size + 1, 0, none⟩) P (rpB s (rpS P xss k) j)) ∧ Hid (Below w.heap.size w wr)) (fun i _ => q - (intOf i).toNat)
      case atStart => exact ⟨0, Nat.zero_le _, rfl, HO, HB⟩
      case round =>
        obtain ⟨j, hj, rfl, HO2, HB2⟩ := hrel
        by_cases hlt2 : j < q
        · have hjx : j < s.length := by rw [← HQ.out]; exact hlt2
          obtain ⟨b2, o2, e2, hb2, hd2⟩ := HRs.out.at_ j hjx
          obtain ⟨hx0, hx1⟩ := HBd.out j hlt2
          have hd2' := (HB2.out.cell (p := ⟨b2, o2 + j, none⟩) hb2).trans hd2
          obtain ⟨xn, hxn⟩ : ∃ xn : Nat, nth s j = (xn : Int) := ⟨(nth s j).toNat, by omega⟩
          have HXn := Lib.hid (show sN s j = xn by unfold sN; rw [hxn]; rfl)
          rw [hxn] at hd2' hx1
          have hxP : xn < P := by omega
          have hx0' : (0 : Int) ≤ (xn : Int) := by omega
          obtain ⟨g, eg, _, _, hct, hft⟩ := HO2.out.at_ (k := xn) (by rw [rpB_len, rpS_len]; exact hxP)
          injection eg with eg
          injection eg with eg
          subst eg
          have hub := HUk.out.rpB (s := s) j xn
          obtain ⟨v, hv⟩ : ∃ v, v = nth (rpB s (rpS P xss k) j) xn := ⟨_, rfl⟩
          have hst := HO2.out.stored xn (v + 1)
          have HO3 := Lib.hid (show OwnI (wr.setCell ⟨w.heap.size + 1, xn, none⟩ (.int .i64 (v + 1))) w.heap.size (some ⟨w.heap.size + 1, 0, none⟩) P (rpB s (rpS P xss k) (j + 1)) by
            rw [rpB, bump, HXn.out, ← hv]; exact hst)
          have HB3 := Lib.hid (HB2.out.setCell (p := ⟨w.heap.size + 1, xn, none⟩) (by show w.heap.size ≤ w.heap.size + 1; omega) (.int .i64 (v + 1)))
          rw [← hv] at hct hub
          obtain ⟨hv0, hv1⟩ := hub
          have hv2 : v ≤ 100000 := by omega
          clear hst hv hd2 hx0 hxn hv1
          rw [e2]
          go_wp2
          go_roundw
          case rel => exact ⟨j + 1, by omega, by go_num, HO3, HB3⟩
          case measure => simp [intOf]; omega
        · obtain rfl : j = q := by omega
          have HO3 := Lib.hid (show OwnI wr w.heap.size (some ⟨w.heap.size + 1, 0, none⟩) P (rpS P xss (k + 1)) by rw [rpS, ← HS.out, ← HQ.out]; exact HO2.out)
          go_wp2
          go_roundw
          case rel => exact ⟨k + 1, by omega, by go_num, HO3, HB2⟩
          case measure => simp [intOf]; omega
    · obtain rfl : k = n := by omega
      have HLn := Lib.hid (rpS_len P xss k)
      go_wp2
      go_ret
      exact ⟨⟨_, _, _, rfl, HLn.out, HO.out⟩, HB.out⟩

set_option maxHeartbeats 4000000 in
theorem l10Replications_c (w : World) (Bx P : Nat) (A : Option Addr) (n c : Nat) (R : Spine) (xss : List (List Int)) (hx : BoxD w Bx (P : Int) A n c) (hr : RdM w A c R xss) (hn : xss.length = n) (hD : DsgOk (P : Int) xss) :
    Calls Tryz.prog 74 #[.pointer (some ⟨Bx, 0, none⟩)] w (PostS w (rpS P xss n)) := by
  have hP1 : 1 ≤ P := by have := hD.1.1; omega
  have hP2 : P ≤ 32 := by have := hD.1.2; omega
  have hn1 : n ≤ 128 := by have := hD.2.1; omega
  have hmk := fun W : World => run_make_row' (P := Tryz.prog) 35 2 (.int .i64 0) 8 Tryz.underlying35 infoI rfl .i64 .i64 P (by omega) (by omega) W
  have H0 := Lib.hid (OwnI.made w P (by unfold maxLen; omega) (Nat.le_refl w.heap.size))
  have HB1 := Lib.hid (below_boxed w (.cells (madeCells #[.int .i64 0] P) 2))
  have HR := Lib.hid hr
  have HN := Lib.hid hn
  have HD := Lib.hid hD
  have HX := Lib.hid hx
  have HL := Lib.hid (fun k hk => Nat.le_trans (setB_len (hD.rows k hk)) hP2)
  have HUp := Lib.hid (UpT.rpS (P := P) (xss := xss) HL.out)
  have hc0 := hx.c0
  have hBl := hx.lt
  clear hx hr hn hD
  go_enter Tryz.func74, Tryz.ntmps74
  go_wp2
  clear hmk hc0
  have HO0 := Lib.hid (show OwnI (w.alloc (.cells (madeCells #[.int .i64 0] P) 2)) w.heap.size (some ⟨w.heap.size, 0, none⟩) P (rpS P xss 0) from H0.out)
  clear H0
  generalize (w.alloc (.cells (madeCells #[.int .i64 0] P) 2)) = w0 at *
  go_loopw [4, 5] (fun i _ wr => ∃ k : Nat, k ≤ n ∧ i = .int .i64 k ∧ Hid (OwnI wr w.heap.size (some ⟨w.heap.size, 0, none⟩) P (rpS P xss k)) ∧ Hid (Below w.heap.size w wr)) (fun i _ _ => n - (intOf i).toNat)
  case atStart => exact ⟨0, Nat.zero_le _, rfl, HO0, HB1⟩
  case round =>
    obtain ⟨k, hk, rfl, HO, HB⟩ := hrel
    have hc1 := (HX.out.below HB.out).c1
    by_cases hlt : k < n
    · have hkx : k < xss.length := by rw [HN.out]; exact hlt
      obtain ⟨b, off, e, hb, hc⟩ := HR.out.at_ k hkx
      subst e
      obtain ⟨s, hs⟩ : ∃ s, s = row xss k := ⟨_, rfl⟩
      have hrs := HR.out.rows k hkx
      rw [← hs] at hc hrs
      have hlen := HL.out k hkx
      obtain ⟨q, hq⟩ : ∃ q, q = s.length := ⟨_, rfl⟩
      rw [← hs, ← hq] at hlen
      rw [← hq] at hc
      have HC := Lib.hid hc
      have HQ := Lib.hid hq
      have HS := Lib.hid hs
      have HRs := Lib.hid hrs
      have hupk := HUp.out k (by omega)
      have HUk := Lib.hid hupk
      have HBd := Lib.hid (show ∀ j, j < q → 0 ≤ nth s j ∧ nth s j < (P : Int) from fun j hj => by rw [hs]; exact rowOk HD.out hkx (by rw [← hs, ← hq]; exact hj))
      have hi0 : (0 : Int) ≤ (k : Int) := by omega
      have hi1 : (k : Int) < (n : Int) := by omega
      clear hc hs hrs hq hupk
      go_wp2
      obtain ⟨wo, hwo⟩ : ∃ wo, wo = wr := ⟨_, rfl⟩
      rw [← hwo] at HB HO hc1 ⊢
      clear hwo
      go_loopw [5] (fun i wr => ∃ j : Nat, j ≤ q ∧ i = .int .i64 j ∧ Hid (OwnI wr w.heap.size (some ⟨w.heap.size, 0, none⟩) P (rpB s (rpS P xss k) j)) ∧ Hid (Below w.heap.size w wr)) (fun i _ => q - (intOf i).toNat)
      case atStart => exact ⟨0, Nat.zero_le _, rfl, HO, HB⟩
      case round =>
        obtain ⟨j, hj, rfl, HO2, HB2⟩ := hrel
        clear hc1
        have hc1 := (HX.out.below HB2.out).c1
        have hcc := (HB2.out.cell (p := ⟨b, off + k, none⟩) hb).trans HC.out
        by_cases hlt2 : j < q
        · have hjx : j < s.length := by rw [← HQ.out]; exact hlt2
          obtain ⟨b2, o2, e2, hb2, hd2⟩ := HRs.out.at_ j hjx
          obtain ⟨hx0, hx1⟩ := HBd.out j hlt2
          have hd2' := (HB2.out.cell (p := ⟨b2, o2 + j, none⟩) hb2).trans hd2
          obtain ⟨xn, hxn⟩ : ∃ xn : Nat, nth s j = (xn : Int) := ⟨(nth s j).toNat, by omega⟩
          have HXn := Lib.hid (show sN s j = xn by unfold sN; rw [hxn]; rfl)
          rw [hxn] at hd2' hx1
          have hxP : xn < P := by omega
          have hx0' : (0 : Int) ≤ (xn : Int) := by omega
          have hj0 : (0 : Int) ≤ (j : Int) := by omega
          have hj1 : (j : Int) < (q : Int) := by omega
          obtain ⟨g, eg, _, _, hct, hft⟩ := HO2.out.at_ (k := xn) (by rw [rpB_len, rpS_len]; exact hxP)
          injection eg with eg
          injection eg with eg
          subst eg
          have hub := HUk.out.rpB (s := s) j xn
          obtain ⟨v, hv⟩ : ∃ v, v = nth (rpB s (rpS P xss k) j) xn := ⟨_, rfl⟩
          have hst := HO2.out.stored xn (v + 1)
          have HO3 := Lib.hid (show OwnI (wr.setCell ⟨w.heap.size, xn, none⟩ (.int .i64 (v + 1))) w.heap.size (some ⟨w.heap.size, 0, none⟩) P (rpB s (rpS P xss k) (j + 1)) by
            rw [rpB, bump, HXn.out, ← hv]; exact hst)
          have HB3 := Lib.hid (HB2.out.setCell (p := ⟨w.heap.size, xn, none⟩) (Nat.le_refl _) (.int .i64 (v + 1)))
          rw [← hv] at hct hub
          obtain ⟨hv0, hv1⟩ := hub
          have hv2 : v ≤ 100000 := by omega
          rw [e2] at hcc
          clear hst hv hd2 hx0 hxn hv1
          go_wp2
          go_roundw
          case rel => exact ⟨j + 1, by omega, by go_num, HO3, HB3⟩
          case measure => simp [intOf]; omega
        · obtain rfl : j = q := by omega
          have HO3 := Lib.hid (show OwnI wr w.heap.size (some ⟨w.heap.size, 0, none⟩) P (rpS P xss (k + 1)) by rw [rpS, ← HS.out, ← HQ.out]; exact HO2.out)
          go_wp2
          go_roundw
          case rel => exact ⟨k + 1, by omega, by go_num, HO3, HB2⟩
          case measure => simp [intOf]; omega
    · obtain rfl : k = n := by omega
      have HLn := Lib.hid (rpS_len P xss k)
      go_wp2
      go_ret
      exact ⟨⟨_, _, _, rfl, HLn.out, HO.out⟩, HB.out⟩

set_option maxHeartbeats 8000000 in
theorem pairCounts_c (w : World) (P : Nat) (A : Option Addr) (n c : Nat) (R : Spine) (xss : List (List Int)) (hr : RdM w A c R xss) (hn : xss.length = n) (hD : DsgOk (P : Int) xss) :
    Calls Tryz.prog 79 #[.agg #[.int .i64 (P : Int), .slice A n c]] w (PostS w (pairL P xss)) := by
  have hP1 : 1 ≤ P := by have := hD.1.1; omega
  have hP2 : P ≤ 32 := by have := hD.1.2; omega
  have hn1 : n ≤ 128 := by have := hD.2.1; omega
  have hB0 := below_boxed w (.cells #[.int .i64 (P : Int), .slice A n c] 28)
  have hX := BoxD.made w (P : Int) A n c 28
  have HR := Lib.hid hr
  have HN := Lib.hid hn
  have HD := Lib.hid hD
  have HL := Lib.hid (fun k hk => Nat.le_trans (setB_len (hD.rows k hk)) hP2)
  have HX := Lib.hid hX
  have HB0 := Lib.hid hB0
  have hc0 := hX.c0
  rw [← pairL_eq hD.rows, hn]
  clear hB0 hX hr hn hD
  go_enter Tryz.func79, Tryz.ntmps79
  go_wp2_with fail
  refine (emptySquare_c _ P (by omega)).mono ?_
  rintro e w1 ⟨⟨A3, n3, c3, R3, rfl, hn3, ho3⟩, hb3⟩
  obtain rfl : n3 = P := by rw [length_sqTo] at hn3; exact hn3.symm
  have HO0 := Lib.hid (show OwnM w1 w.heap.size A3 c3 R3 (sqTo (pS xss 0) n3 n3) from ho3.lower (by simp))
  have HB1 := Lib.hid (HB0.out.trans (hb3.mono (by simp)))
  have hc1 := (HX.out.below hb3).c1
  clear hc0 hn3 ho3 hb3
  go_wp2
  clear hc1
  go_loopw [19] (fun i wr => ∃ k : Nat, k ≤ n ∧ i = .int .i64 k ∧ Hid (OwnM wr w.heap.size A3 c3 R3 (sqTo (pS xss k) n3 n3)) ∧ Hid (Below w.heap.size w wr)) (fun i _ => n - (intOf i).toNat)
  case atStart => exact ⟨0, Nat.zero_le _, rfl, HO0, HB1⟩
  case round =>
    obtain ⟨k, hk, rfl, HO, HB⟩ := hrel
    by_cases hlt : k < n
    · have hkx : k < xss.length := by rw [HN.out]; exact hlt
      obtain ⟨b, off, e, hb, hc⟩ := HR.out.at_ k hkx
      subst e
      have hcc := (HB.out.cell (p := ⟨b, off + k, none⟩) hb).trans hc
      obtain ⟨s, hs⟩ : ∃ s, s = row xss k := ⟨_, rfl⟩
      have hrs := HR.out.rows k hkx
      rw [← hs] at hcc hrs
      have hlen := HL.out k hkx
      obtain ⟨q, hq⟩ : ∃ q, q = s.length := ⟨_, rfl⟩
      rw [← hs, ← hq] at hlen
      rw [← hq] at hcc
      have hC1 : q ≤ (R k).2 := by rw [hq]; exact hrs.le
      have hC2 : (R k).2 ≤ 9223372036854775807 := by have := hrs.cap; unfold maxLen at this; exact this
      obtain ⟨C, hC⟩ : ∃ C, C = (R k).2 := ⟨_, rfl⟩
      rw [← hC] at hcc hrs hC1 hC2
      have HQ := Lib.hid hq
      have HS := Lib.hid hs
      have HRs := Lib.hid hrs
      have HBd := Lib.hid (show ∀ j, j < q → 0 ≤ nth s j ∧ nth s j < (n3 : Int) from fun j hj => by rw [hs]; exact rowOk HD.out hkx (by rw [← hs, ← hq]; exact hj))
      have HVb := Lib.hid (show ∀ i j, i + 1 + j ≤ q → ∀ x y, 0 ≤ pJ s i (pI s (pS xss k) i) j x y ∧ pJ s i (pI s (pS xss k) i) j x y ≤ (k : Int) + 2 from fun i j h x y => by
        rw [hs]; exact pJ_bd HD.out.rows hkx (by rw [← hs, ← hq]; exact h) x y)
      clear hc hs hrs hq hC
      go_wp2
      obtain ⟨wo, hwo⟩ : ∃ wo, wo = wr := ⟨_, rfl⟩
      rw [← hwo] at HB HO hcc ⊢
      clear hwo
      go_loopw [25] (fun i wr => ∃ i0 : Nat, i0 ≤ q ∧ i = .int .i64 i0 ∧ Hid (OwnM wr w.heap.size A3 c3 R3 (sqTo (pI s (pS xss k) i0) n3 n3)) ∧ Hid (Below w.heap.size w wr)) (fun i _ => q - (intOf i).toNat)
      case atStart => exact ⟨0, Nat.zero_le _, rfl, HO, HB⟩
      case round =>
        obtain ⟨i, hi, rfl, HO2, HB2⟩ := hrel
        by_cases hlt2 : i < q
        · have hix : i < s.length := by rw [← HQ.out]; exact hlt2
          obtain ⟨b1, o1, e1, hb1, hd1⟩ := HRs.out.at_ i hix
          obtain ⟨hx0, hx1⟩ := HBd.out i hlt2
          have hd1' := (HB2.out.cell (p := ⟨b1, o1 + i, none⟩) hb1).trans hd1
          obtain ⟨xn, hxn⟩ : ∃ xn : Nat, nth s i = (xn : Int) := ⟨(nth s i).toNat, by omega⟩
          have HXn := Lib.hid (show sN s i = xn by unfold sN; rw [hxn]; rfl)
          rw [hxn] at hd1' hx1
          have hxP : xn < n3 := by omega
          have hx0' : (0 : Int) ≤ (xn : Int) := by omega
          clear hd1 hx0 hxn
          rw [e1]
          have HNx := Lib.hid (show pI s (pS xss k) (i + 1) = pJ s i (pI s (pS xss k) i) (q - (i + 1)) by rw [pI, ← HQ.out])
          by_cases hcap : C = i + 1
          · have hq0 : q = i + 1 := by omega
            have HO3 := Lib.hid (show OwnM wr w.heap.size A3 c3 R3 (sqTo (pI s (pS xss k) (i + 1)) n3 n3) by rw [HNx.out, hq0, Nat.sub_self]; exact HO2.out)
            subst hq0
            have hss : i + 1 - (i + 1) = 0 := by omega
            go_wp2
            go_loop [35] (fun j => j = .int .i64 0) (fun _ => 0)
            case atStart => rfl
            case round =>
              obtain rfl := hrel
              go_wp2
              go_roundw
              case rel => exact ⟨i + 1, by omega, by go_num, HO3, HB2⟩
              case measure => simp [intOf]
          · have hcap2 : i + 1 < C := by omega
            go_wp2
            obtain ⟨wo2, hwo2⟩ : ∃ wo2, wo2 = wr := ⟨_, rfl⟩
            rw [← hwo2] at HB2 HO2 hd1' ⊢
            clear hwo2
            obtain ⟨z, hz⟩ : ∃ z, z = q - (i + 1) := ⟨_, rfl⟩
            rw [← hz] at HNx ⊢
            go_loopw [35] (fun j wr => ∃ j0 : Nat, j0 ≤ z ∧ j = .int .i64 j0 ∧ Hid (OwnM wr w.heap.size A3 c3 R3 (sqTo (pJ s i (pI s (pS xss k) i) j0) n3 n3)) ∧ Hid (Below w.heap.size w wr)) (fun j _ => z - (intOf j).toNat)
            case atStart => exact ⟨0, Nat.zero_le _, rfl, HO2, HB2⟩
            case round =>
              obtain ⟨j, hj, rfl, HO3, HB3⟩ := hrel
              by_cases hlt3 : j < z
              · have hjx : i + 1 + j < s.length := by rw [← HQ.out]; omega
                obtain ⟨b2, o2, e2, hb2, hd2⟩ := HRs.out.at_ (i + 1 + j) hjx
                rw [e1] at e2
                injection e2 with e2
                injection e2 with e2 e3
                subst e2 e3
                have hd2' := (HB3.out.cell (p := ⟨b1, o1 + (i + 1 + j), none⟩) hb2).trans hd2
                rw [show o1 + (i + 1 + j) = o1 + (i + 1) + j by omega] at hd2'
                obtain ⟨hy0, hy1⟩ := HBd.out (i + 1 + j) (by omega)
                obtain ⟨yn, hyn⟩ : ∃ yn : Nat, nth s (i + 1 + j) = (yn : Int) := ⟨(nth s (i + 1 + j)).toNat, by omega⟩
                have HYn := Lib.hid (show sN s (i + 1 + j) = yn by unfold sN; rw [hyn]; rfl)
                rw [hyn] at hd2' hy1
                have hyP : yn < n3 := by omega
                have hy0' : (0 : Int) ≤ (yn : Int) := by omega
                have hvb := HVb.out i j (by omega) xn yn
                have hpj : pJ s i (pI s (pS xss k) i) (j + 1) = upd (pJ s i (pI s (pS xss k) i) j) xn yn (pJ s i (pI s (pS xss k) i) j xn yn + 1) := by rw [pJ, pstep, HXn.out, HYn.out]
                obtain ⟨v, hv⟩ : ∃ v, v = pJ s i (pI s (pS xss k) i) j xn yn := ⟨_, rfl⟩
                rw [← hv] at hvb hpj
                obtain ⟨g, g', C', eg, hg1, hg2, hfz, hlo, hgs, hset⟩ := HO3.out.sq_at (i := xn) (j := yn) hxP hyP
                rw [← hv] at hg2
                have hset' := hset (v + 1)
                rw [← hpj] at hset'
                have HO4 := Lib.hid hset'
                have HB4 := Lib.hid (HB3.out.setCell (p := ⟨g', yn, none⟩) hlo (.int .i64 (v + 1)))
                obtain ⟨hv0, hv1⟩ := hvb
                have hv2 : v ≤ 1000 := by omega
                have hz9 : z ≤ 32 := by omega
                clear hset hset' hv hpj hd2 hy0 hyn hv1 hz
                rw [eg]
                go_wp2
                go_roundw
                case rel => exact ⟨j + 1, by omega, by go_num, by rw [← eg]; exact HO4, HB4⟩
                case measure => simp [intOf]; omega
              · obtain rfl : j = z := by omega
                clear hz
                go_wp2
                go_roundw
                case rel => exact ⟨i + 1, by omega, by go_num, by rw [HNx.out]; exact HO3, HB3⟩
                case measure => simp [intOf]; omega
        · obtain rfl : i = q := by omega
          have HNx := Lib.hid (show pS xss (k + 1) = pI s (pS xss k) i by rw [pS, ← HS.out, ← HQ.out])
          go_wp2
          go_roundw
          case rel => exact ⟨k + 1, by omega, by go_num, by rw [HNx.out]; exact HO2, HB2⟩
          case measure => simp [intOf]; omega
    · obtain rfl : k = n := by omega
      obtain ⟨w2, hw2⟩ : ∃ w2, w2 = wr := ⟨_, rfl⟩
      rw [← hw2] at HB HO ⊢
      clear hw2
      have hsz := HB.out.size
      go_wp2
      go_loopw [10, 53] (fun o i wr => ∃ (x m : Nat) (A : Option Addr) (c : Nat), x ≤ n3 ∧ i = .int .i64 x ∧ o = .slice A m c ∧ Hid ((pairsTo n3 (pS xss k) x).length = m) ∧ Hid (OwnI wr w2.heap.size A c (pairsTo n3 (pS xss k) x)) ∧ Hid (Below w2.heap.size w2 wr)) (fun _ i _ => n3 - (intOf i).toNat)
      case atStart => exact ⟨0, 0, none, 0, Nat.zero_le _, rfl, rfl, rfl, OwnI.nil_ _ _, Below.refl _ _⟩
      case round =>
        obtain ⟨x, m, Ao, co, hx, rfl, rfl, hm, HI, HB2⟩ := hrel
        have HO2 := Lib.hid (HO.out.below HB2.out)
        have hsz2 := HB2.out.size
        by_cases hlt : x < n3
        · have hxl : x < (sqTo (pS xss k) n3 n3).length := by rw [length_sqTo]; exact hlt
          obtain ⟨g, eg, _, _, hg1, _⟩ := HO2.out.at_ hxl
          have hrow := HO2.out.rows x hxl
          rw [row_sqTo hlt] at hg1 hrow
          rw [length_rowTo] at hg1
          obtain ⟨g', eg', _, _, _, _⟩ := hrow.at_ (k := 0) (by rw [length_rowTo]; omega)
          have hrd := hrow.rd
          obtain ⟨C, hC⟩ : ∃ C, C = (R3 x).2 := ⟨_, rfl⟩
          rw [← hC] at hg1 hrd
          rw [eg'] at hg1 hrd
          have hC1 : n3 ≤ C := by have := hrd.le; rw [length_rowTo] at this; exact this
          have hC2 : C ≤ 9223372036854775807 := by have := hrd.cap; unfold maxLen at this; exact this
          have HRd := Lib.hid hrd
          have HSu := Lib.hid (pairsTo_succ n3 (pS xss k) x)
          have hml : m ≤ 1024 := by
            have h1 := pairsTo_len n3 (pS xss k) x
            have h2 : x * n3 ≤ 32 * 32 := Nat.mul_le_mul (by omega) hP2
            rw [hm.out] at h1; omega
          clear hrow hrd hC
          rw [eg]
          by_cases hcap : C = x + 1
          · have hx1 : n3 = x + 1 := by omega
            have hdrop : (rowTo (pS xss k) x n3).drop (x + 1) = [] := List.drop_eq_nil_of_le (by rw [length_rowTo]; omega)
            have HSu2 := Lib.hid (show pairsTo n3 (pS xss k) (x + 1) = pairsTo n3 (pS xss k) x by rw [HSu.out, hdrop, List.append_nil])
            have HNil := Lib.hid (show RdI wr (some ⟨g', 0, none⟩) 0 [] from ⟨Nat.le_refl _, by simp, fun _ h => absurd h (by simp)⟩)
            have hz0 : n3 - (x + 1) = 0 := by omega
            clear hdrop hx1
            subst hcap
            go_wp2_with (at_builtin; refine wpI_appendL rfl _ _ rfl w2.heap.size _ _ _ (pairsTo n3 (pS xss k) x) _ _ _ [] rfl rfl hm.out rfl HI.out HNil.out (fun h => by cases h) (by omega) (by omega) ?_; intro A4 c4 w4 ho4 hg4 ha4)
            have HB4 := Lib.hid (HB2.out.trans (below_blk HI.out hg4 (Nat.le_refl _) hsz2))
            have HI4 := Lib.hid (show OwnI w4 w2.heap.size A4 c4 (pairsTo n3 (pS xss k) (x + 1)) by rw [HSu2.out]; rw [List.append_nil] at ho4; exact ho4)
            have HM4 := Lib.hid (show (pairsTo n3 (pS xss k) (x + 1)).length = m by rw [HSu2.out]; exact hm.out)
            clear ho4 hg4 ha4
            go_wp2
            go_roundw
            case rel => first | exact ⟨x + 1, m, A4, c4, by omega, by go_num, rfl, HM4, HI4, HB4⟩ | ((repeat apply Exists.intro); exact ⟨⟨x + 1, m, A4, c4, by omega, by go_num, rfl, HM4, HI4, HB4⟩, rfl⟩)
            case measure => simp [intOf]; omega
          · have hcap2 : x + 1 < C := by omega
            have HRd2 := Lib.hid (show RdI wr (some ⟨g', x + 1, none⟩) (C - (x + 1)) ((rowTo (pS xss k) x n3).drop (x + 1)) by have := HRd.out.drop (x + 1); rwa [Nat.zero_add] at this)
            have HLd := Lib.hid (show ((rowTo (pS xss k) x n3).drop (x + 1)).length = n3 - (x + 1) by rw [List.length_drop, length_rowTo])
            go_wp2_with (at_builtin; refine wpI_appendL rfl _ _ rfl w2.heap.size _ _ _ (pairsTo n3 (pS xss k) x) _ _ _ ((rowTo (pS xss k) x n3).drop (x + 1)) rfl rfl hm.out HLd.out HI.out HRd2.out (fun h => by cases h) (by omega) (by omega) ?_; intro A4 c4 w4 ho4 hg4 ha4)
            have HB4 := Lib.hid (HB2.out.trans (below_blk HI.out hg4 (Nat.le_refl _) hsz2))
            have HI4 := Lib.hid (show OwnI w4 w2.heap.size A4 c4 (pairsTo n3 (pS xss k) (x + 1)) by rw [HSu.out]; exact ho4)
            have HM4 := Lib.hid (show (pairsTo n3 (pS xss k) (x + 1)).length = m + (n3 - (x + 1)) by rw [HSu.out, List.length_append, hm.out, HLd.out])
            clear ho4 hg4 ha4
            go_wp2
            go_roundw
            case rel => exact ⟨x + 1, m + (n3 - (x + 1)), A4, c4, by omega, by go_num, rfl, HM4, HI4, HB4⟩
            case measure => simp [intOf]; omega
        · obtain rfl : x = n3 := by omega
          have HI2 := Lib.hid (HI.out.lower hsz)
          have HBf := Lib.hid (HB.out.trans (HB2.out.mono hsz))
          go_wp2
          go_ret
          exact ⟨⟨Ao, m, co, rfl, hm.out, HI2.out⟩, HBf.out⟩

def outTo (P : Nat) (F : Nat → Nat → Int) (a b : Nat) : List Int := pairsTo P F a ++ ((rowTo F a P).drop (a + 1)).take (b - (a + 1))
theorem outTo_zero (P : Nat) (F : Nat → Nat → Int) (a : Nat) : outTo P F a (a + 1) = pairsTo P F a := by simp [outTo]
theorem outTo_succ {P : Nat} {F : Nat → Nat → Int} {a b : Nat} (h : a < b) (hb : b < P) : outTo P F a (b + 1) = outTo P F a b ++ [F a b] := by
  unfold outTo
  rw [show b + 1 - (a + 1) = (b - (a + 1)) + 1 by omega, List.take_add_one, ← List.append_assoc]
  congr 1
  rw [List.getElem?_drop, show a + 1 + (b - (a + 1)) = b by omega]
  simp [rowTo, hb]
theorem outTo_all {P : Nat} {F : Nat → Nat → Int} {a : Nat} : outTo P F a P = pairsTo P F (a + 1) := by
  rw [pairsTo_succ]
  unfold outTo
  congr 1
  exact List.take_of_length_le (by rw [List.length_drop, length_rowTo]; exact Nat.le_refl _)
theorem outTo_len (P : Nat) (F : Nat → Nat → Int) (a b : Nat) : (outTo P F a b).length ≤ a * P + P := by
  unfold outTo
  rw [List.length_append, List.length_take, List.length_drop, length_rowTo]
  have := pairsTo_len P F a
  omega

set_option maxHeartbeats 8000000 in
theorem l10Pairs_c (w : World) (Bx P : Nat) (A : Option Addr) (n c : Nat) (R : Spine) (xss : List (List Int)) (hx : BoxD w Bx (P : Int) A n c) (hr : RdM w A c R xss) (hn : xss.length = n) (hD : DsgOk (P : Int) xss) :
    Calls Tryz.prog 73 #[.pointer (some ⟨Bx, 0, none⟩)] w (PostS w (pairL P xss)) := by
  have hP1 : 1 ≤ P := by have := hD.1.1; omega
  have hP2 : P ≤ 32 := by have := hD.1.2; omega
  have hn1 : n ≤ 128 := by have := hD.2.1; omega
  have HR := Lib.hid hr
  have HN := Lib.hid hn
  have HX := Lib.hid hx
  have H0 := Lib.hid (OwnI.lit0 w (Nat.le_refl w.heap.size))
  have HB0 := Lib.hid (below_boxed w (.cells #[] 2))
  obtain ⟨F, hF⟩ : ∃ F, F = cntF xss := ⟨_, rfl⟩
  have HF := Lib.hid hF
  rw [show pairL P xss = pairsTo P F P by rw [hF]; rfl]
  clear hr hn hx hF hD
  go_enter Tryz.func73, Tryz.ntmps73
  go_wp2
  generalize (w.alloc (.cells #[] 2)) = w0 at *
  go_loopw [3, 4, 5, 6, 7] (fun o i _ _ _ wr => ∃ (a m : Nat) (A' : Option Addr) (c' : Nat), a ≤ P ∧ i = .int .i64 a ∧ o = .slice A' m c' ∧ Hid ((pairsTo P F a).length = m) ∧ Hid (OwnI wr w.heap.size A' c' (pairsTo P F a)) ∧ Hid (Below w.heap.size w wr)) (fun _ i _ _ _ _ => P - (intOf i).toNat)
  case atStart => exact ⟨0, 0, _, _, Nat.zero_le _, rfl, rfl, rfl, H0.out, HB0⟩
  case round =>
    obtain ⟨a, m, A2, c2, ha, rfl, rfl, hm, HI, HB⟩ := hrel
    have hc0 := (HX.out.below HB.out).c0
    by_cases hlt : a < P
    · obtain ⟨wo, hwo⟩ : ∃ wo, wo = wr := ⟨_, rfl⟩
      rw [← hwo] at HB HI hc0 ⊢
      clear hwo
      go_wp2
      clear hc0
      go_loopw [3, 5, 6, 7] (fun o i _ _ wr => ∃ (b m : Nat) (A' : Option Addr) (c' : Nat), a < b ∧ b ≤ P ∧ i = .int .i64 b ∧ o = .slice A' m c' ∧ Hid ((outTo P F a b).length = m) ∧ Hid (OwnI wr w.heap.size A' c' (outTo P F a b)) ∧ Hid (Below w.heap.size w wr)) (fun _ i _ _ _ => P - (intOf i).toNat)
      case atStart => exact ⟨a + 1, m, A2, c2, by omega, by omega, by go_num, rfl, by rw [outTo_zero]; exact hm, by rw [outTo_zero]; exact HI, HB⟩
      case round =>
        obtain ⟨b, m3, A3, c3, hab, hb, rfl, rfl, hm3, HI3, HB3⟩ := hrel
        have hc0 := (HX.out.below HB3.out).c0
        have hsz := HB3.out.size
        by_cases hlt2 : b < P
        · obtain ⟨wi, hwi⟩ : ∃ wi, wi = wr := ⟨_, rfl⟩
          rw [← hwi] at HB3 HI3 hc0 hsz ⊢
          clear hwi
          go_wp2
          clear hc0
          have hc1 := (HX.out.below HB3.out).c1
          go_loop [6, 7] (fun s i => ∃ k : Nat, k ≤ n ∧ i = .int .i64 k ∧ s = .int .i64 ((cntP xss (a : Int) (b : Int) k : Nat) : Int)) (fun _ i => n - (intOf i).toNat)
          case atStart => exact ⟨0, Nat.zero_le _, rfl, rfl⟩
          case round =>
            obtain ⟨k, hk, rfl, rfl⟩ := hrel
            have hle := cntP_le xss (a : Int) (b : Int) k
            by_cases hlt3 : k < n
            · have hkx : k < xss.length := by rw [HN.out]; exact hlt3
              obtain ⟨b1, off, e, hb1, hc⟩ := HR.out.at_ k hkx
              rw [e] at hc1
              have hcc := (HB3.out.cell (p := ⟨b1, off + k, none⟩) hb1).trans hc
              have hrk := (HR.out.rows k hkx).below HB3.out
              have HH := Lib.hid (has_c wi (R k).1 (row xss k).length (R k).2 (row xss k) (a : Int) hrk rfl)
              have HH2 := Lib.hid (has_c wi (R k).1 (row xss k).length (R k).2 (row xss k) (b : Int) hrk rfl)
              have HS := Lib.hid (cntP_succ xss (a : Int) (b : Int) k)
              have HLP := Lib.hid (show lineP xss (a : Int) (b : Int) k = (hasB (row xss k) (a : Int) && hasB (row xss k) (b : Int)) from rfl)
              have hi0 : (0 : Int) ≤ (k : Int) := by omega
              have hi1 : (k : Int) < (n : Int) := by omega
              clear hrk hc
              generalize hasB (row xss k) (a : Int) = q1 at *
              generalize hasB (row xss k) (b : Int) = q2 at *
              cases q1
              · have HS2 := Lib.hid (show cntP xss (a : Int) (b : Int) (k + 1) = cntP xss (a : Int) (b : Int) k by rw [HS.out, HLP.out]; rfl)
                go_wp2_with fail
                refine (HH.out).mono ?_
                rintro e w' ⟨rfl, rfl⟩
                go_wp2
                go_round
                case rel => exact ⟨k + 1, by omega, by go_num, by rw [HS2.out]⟩
                case measure => simp [intOf]; omega
              · cases q2
                · have HS2 := Lib.hid (show cntP xss (a : Int) (b : Int) (k + 1) = cntP xss (a : Int) (b : Int) k by rw [HS.out, HLP.out]; rfl)
                  go_wp2_with fail
                  refine (HH.out).mono ?_
                  rintro e w' ⟨rfl, rfl⟩
                  go_wp2_with fail
                  refine (HH2.out).mono ?_
                  rintro e w' ⟨rfl, rfl⟩
                  go_wp2
                  go_round
                  case rel => exact ⟨k + 1, by omega, by go_num, by rw [HS2.out]⟩
                  case measure => simp [intOf]; omega
                · have HS2 := Lib.hid (show cntP xss (a : Int) (b : Int) (k + 1) = cntP xss (a : Int) (b : Int) k + 1 by rw [HS.out, HLP.out]; rfl)
                  go_wp2_with fail
                  refine (HH.out).mono ?_
                  rintro e w' ⟨rfl, rfl⟩
                  go_wp2_with fail
                  refine (HH2.out).mono ?_
                  rintro e w' ⟨rfl, rfl⟩
                  go_wp2
                  go_round
                  case rel => exact ⟨k + 1, by omega, by go_num, by rw [HS2.out]; go_num⟩
                  case measure => simp [intOf]; omega
            · obtain rfl : k = n := by omega
              have HV := Lib.hid (show F a b = ((cntP xss (a : Int) (b : Int) k : Nat) : Int) by rw [HF.out, cntF, HN.out])
              obtain ⟨v, hv⟩ : ∃ v : Int, v = ((cntP xss (a : Int) (b : Int) k : Nat) : Int) := ⟨_, rfl⟩
              rw [← hv] at HV ⊢
              have HI4 := Lib.hid (HI3.out.alloc (.cells #[.int .i64 v] 2))
              have HSu := Lib.hid (outTo_succ (F := F) hab hlt2)
              have hml : m3 ≤ 1056 := by
                have h1 := outTo_len P F a b
                have h2 : a * P ≤ 32 * 32 := Nat.mul_le_mul (by omega) hP2
                rw [hm3.out] at h1; omega
              clear hv
              go_wp2_with (at_builtin; refine wpI_append rfl _ _ rfl w.heap.size _ _ _ (outTo P F a b) v wi.heap.size rfl rfl hm3.out HI4.out (World.cell?_alloc_at _ _ _ _ rfl) (by omega) (by simp; omega) ?_; intro A5 c5 w5 ho5 hg5 ha5)
              have HB5 := Lib.hid ((HB3.out.alloc hsz _).trans (below_blk HI4.out hg5 (Nat.le_refl _) (by simp; omega)))
              have HO5 := Lib.hid (show OwnI w5 w.heap.size A5 c5 (outTo P F a (b + 1)) by rw [HSu.out, HV.out]; exact ho5)
              have HM5 := Lib.hid (show (outTo P F a (b + 1)).length = m3 + 1 by rw [HSu.out, List.length_append, hm3.out]; rfl)
              clear ho5 hg5 ha5
              go_wp2
              go_roundw
              case rel => exact ⟨b + 1, m3 + 1, A5, c5, by omega, by omega, by go_num, rfl, HM5, HO5, HB5⟩
              case measure => simp [intOf]; omega
        · obtain rfl : b = P := by omega
          have HO5 := Lib.hid (show OwnI wr w.heap.size A3 c3 (pairsTo b F (a + 1)) by rw [← outTo_all]; exact HI3.out)
          have HM5 := Lib.hid (show (pairsTo b F (a + 1)).length = m3 by rw [← outTo_all]; exact hm3.out)
          go_wp2
          go_roundw
          case rel => exact ⟨a + 1, m3, A3, c3, by omega, by go_num, rfl, HM5, HO5, HB3⟩
          case measure => simp [intOf]; omega
    · obtain rfl : a = P := by omega
      go_wp2
      go_ret
      exact ⟨⟨A2, m, c2, rfl, hm.out, HI.out⟩, HB.out⟩
end Go.Proofs.YtmmkmkbpgcbehaaGreat
