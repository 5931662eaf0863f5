/-
  MultipliersOf of the reference. Conditions: those of each theorem.
-/
import Derived.Test.YtpgmjfgjlddhgaaMult
namespace Go.Proofs.Ytpgmjfgjlddhgaa
open Go.RowKit
set_option linter.unusedVariables false
set_option linter.unusedSimpArgs false

set_option maxRecDepth 100000 in
set_option maxHeartbeats 4000000 in
theorem specMultipliersOf_c (w : World) (n : Int) (hn64 : -9223372036854775808 ≤ n ∧ n ≤ 9223372036854775807) (A : Option Addr) (m c : Nat) (xs : List Int) (hr : RdI w A c xs) (hm : xs.length = m) (hw : WfL xs) (hz : (m : Int) ≤ 1048576) (hd0 : A = none → c = 0) :
    Calls Try.prog 47 #[.int .i64 n, .slice A m c] w (PostSC w (mlL n xs) (mlC n xs)) := by
  have hS := l13Set_c w A m c xs n hr hm
  rcases hs : set13 n xs with _ | _
  · rw [hs] at hS
    rw [show mlC n xs = 1 by simp [mlC, mlOk, hs], show mlL n xs = [] by simp [mlL, mlOk, hs]]
    have HS := Lib.hid hS
    clear hS hs hr hm hd0
    go_enter Try.func47, Try.ntmps47
    go_wp2_with fail
    refine (HS.out).mono ?_
    rintro e w1 ⟨rfl, q0, rfl⟩
    go_wp2
    go_ret2
    exact ⟨⟨none, 0, 0, rfl, rfl, OwnI.nil_ _ _⟩, below_drewN (Below.refl _ _) q0⟩
  rw [hs] at hS
  have HS := Lib.hid hS
  have hok : Set13 n xs := of_decide_eq_true hs
  by_cases h0 : xs = []
  · rw [show mlC n xs = 1 by simp [mlC, mlOk, h0], show mlL n xs = [] by simp [mlL, mlOk, h0]]
    obtain rfl : m = 0 := by rw [← hm, h0]; rfl
    clear hS hs hr hm hd0 hok h0
    go_enter Try.func47, Try.ntmps47
    go_wp2_with fail
    refine (HS.out).mono ?_
    rintro e w1 ⟨rfl, q0, rfl⟩
    go_wp2
    go_ret2
    exact ⟨⟨none, 0, 0, rfl, rfl, OwnI.nil_ _ _⟩, below_drewN (Below.refl _ _) q0⟩
  have hmp : 0 < m := by rw [← hm]; exact List.length_pos_iff.2 h0
  have hme : ((m : Int) == 0) = false := by simp; omega
  have hme2 : (m == 0) = false := by simp; omega
  obtain ⟨N, rfl⟩ : ∃ N : Nat, n = (N : Int) := ⟨n.toNat, by have := hok.1; omega⟩
  have hN := (set13_facts hok).1
  have hFm := fun (q0 : Nat) => l13Lambda_c ((w.drewN q0).alloc (.cells #[.slice A m c] 35)) N (some ⟨w.heap.size, 0, none⟩) 1 1 (fun _ => (A, c)) [xs] (RdM.lit1 (hr.drewN q0) hm) rfl (sets1 hok h0) (by omega)
  by_cases hlm : 0 ≤ lamI N [xs]
  · have hld : decide (lamI N [xs] < 0) = false := by simp; omega
    rw [show mlC (N : Int) xs = 0 by unfold mlC; rw [if_pos ⟨hs, h0⟩]; exact if_pos hlm, show mlL (N : Int) xs = mulTo N xs N by unfold mlL; rw [if_pos ⟨⟨hs, h0⟩, hlm⟩]; rfl]
    have HFm := Lib.hid hFm
    have HNm := Lib.hid (fun (W : World) (hb : Below w.heap.size w W) => l13Normal_c W N A m c xs (hr.below hb) hm hd0 hok)
    have HMu := Lib.hid (fun (W : World) (hb : Below w.heap.size w W) (t : Nat) (ht : t < N) => l13Move_c W N A m c xs (hr.below hb) hm hok t 0 (by omega) (by omega))
    rw [show ((0 : Nat) : Int) = 0 from rfl] at HMu
    have HNs := Lib.hid (fun (W : World) (t : Nat) (A' : Option Addr) (n' c' : Nat) (h : RdI W A' c' (mvL N xs (t : Int) 0)) (hl : (mvL N xs (t : Int) 0).length = n') (hcn : A' = none → c' = 0) => l13Normal_c W N A' n' c' (mvL N xs (t : Int) 0) h hl hcn (mv_set13 hok t 0))
    have HOk := Lib.hid hok
    have HB0 := Lib.hid (fun (q0 : Nat) => (below_drewN (Below.refl w.heap.size w) q0).alloc (Nat.le_refl _) (.cells #[.slice A m c] 35))
    generalize lamI N [xs] = L at *
    clear hFm hr hm hok hs hS hd0 h0
    go_enter Try.func47, Try.ntmps47
    go_wp2_with fail
    refine (HS.out).mono ?_
    rintro e w' ⟨rfl, q0, rfl⟩
    go_wp2_with fail
    refine (HFm.out q0).mono ?_
    rintro e w1 ⟨rfl, hb1⟩
    have HB1 := Lib.hid ((HB0.out q0).trans (hb1.mono (by simp)))
    have hz1 := HB1.out.size
    have HB1b := Lib.hid (HB1.out.alloc hz1 (.cells #[] 2))
    have HE0 := Lib.hid (OwnI.lit0 w1 (Nat.le_refl w1.heap.size))
    clear hb1
    go_wp2_with fail
    refine (HNm.out _ HB1b.out).mono ?_
    rintro e w2 ⟨⟨A2, n2, c2, rfl, hn2, ho2⟩, hb2⟩
    have hz1b := HB1b.out.size
    have HO2 := Lib.hid (ho2.lower (lo' := w.heap.size) hz1b)
    have HB2 := Lib.hid (HB1b.out.trans (hb2.mono hz1b))
    have HE2 := Lib.hid (HE0.out.below hb2)
    have HL2 := Lib.hid hn2
    have hz2 := HB2.out.size
    have hgE : w1.heap.size < w2.heap.size := by have := hb2.size; simp at this; omega
    have HAp := Lib.hid (show ∀ g, A2 = some ⟨g, 0, none⟩ → blk (some ⟨w1.heap.size, 0, none⟩) ≠ some g from fun g e e2 => by
      have := (ho2.lt e).1
      rw [blk_some] at e2
      injection e2 with e2
      simp at this
      omega)
    clear hn2 ho2 hb2
    go_wp2
    go_loopw [6, 8] (fun o i wr => ∃ (k m1 : Nat) (A1 : Option Addr) (c1 : Nat), 1 ≤ k ∧ k ≤ N ∧ i = .int .i64 k ∧ o = .slice A1 m1 c1 ∧ Hid ((mulTo N xs k).length = m1) ∧ Hid (OwnI wr w.heap.size A1 c1 (mulTo N xs k)) ∧ Hid (OwnI wr w.heap.size A2 c2 (nmTo N xs N)) ∧ Hid (∀ g, A2 = some ⟨g, 0, none⟩ → blk A1 ≠ some g) ∧ Hid (Below w.heap.size w wr)) (fun _ i _ => N - (intOf i).toNat)
    case atStart => exact ⟨1, 0, _, _, Nat.le_refl _, hN.1, rfl, rfl, Lib.hid (by rw [mulTo_one]; rfl), Lib.hid (by rw [mulTo_one]; exact HE2.out.lower hz1), HO2, HAp, HB2⟩
    case round =>
      obtain ⟨k, m1, A1, c1, hk1, hk, rfl, rfl, HL, HO, HW, HAp, HB⟩ := hrel
      have hzr := HB.out.size
      by_cases hlt : k < N
      · have HG := Lib.hid (l02Gcd_c wr k N (by omega) (by omega))
        have hSu := mulTo_succ N xs hk1
        by_cases hg : Nat.gcd k N = 1
        · rw [hg] at HG
          have HMk := Lib.hid (HMu.out wr HB.out k hlt)
          have HSu := Lib.hid (show mulTo N xs (k + 1) = mulTo N xs k ++ if nmTo N (mvL N xs (k : Int) 0) N = nmTo N xs N then [(k : Int)] else [] by
            rw [hSu]; congr 1; unfold mulB; simp [hg])
          clear hSu hg
          go_wp2_with fail
          refine (HG.out).mono ?_
          rintro e w' ⟨rfl, rfl⟩
          go_wp2_with fail
          refine (HMk.out).mono ?_
          rintro e w4 ⟨⟨A4, n4, c4, rfl, hn4, ho4⟩, hb4⟩
          have HNk := Lib.hid (HNs.out w4 k A4 n4 c4 ho4.rd hn4 ho4.nil_cap)
          have HB4 := Lib.hid (HB.out.trans (hb4.mono hzr))
          have HO4 := Lib.hid (HO.out.below hb4)
          have HW4 := Lib.hid (HW.out.below hb4)
          clear hn4 ho4 hb4
          go_wp2_with fail
          refine (HNk.out).mono ?_
          rintro e w5 ⟨⟨A5, n5, c5, rfl, hn5, ho5⟩, hb5⟩
          have HB5 := Lib.hid (HB4.out.trans (hb5.mono HB4.out.size))
          have HO5 := Lib.hid (HO4.out.below hb5)
          have HW5 := Lib.hid (HW4.out.below hb5)
          have HEq := Lib.hid (same_c w5 ho5.rd HW5.out.rd hn5 HL2.out)
          clear hn5 ho5 hb5
          by_cases he : nmTo N (mvL N xs (k : Int) 0) N = nmTo N xs N
          · rw [decide_eq_true he] at HEq
            rw [if_pos he] at HSu
            clear he
            go_wp2_with fail
            refine (HEq.out).mono ?_
            rintro e w6 ⟨rfl, q2, rfl⟩
            have hz5 := HB5.out.size
            have HI6 := Lib.hid ((HO5.out.drewN q2).alloc (.cells #[.int .i64 (k : Int)] 2))
            have HW6 := Lib.hid ((HW5.out.drewN q2).alloc (.cells #[.int .i64 (k : Int)] 2))
            have HB6 := Lib.hid ((below_drewN HB5.out q2).alloc (by show w.heap.size ≤ (w5.drewN q2).heap.size; exact hz5) (.cells #[.int .i64 (k : Int)] 2))
            have hm1 : m1 ≤ 32 := by have := mulTo_len N xs k; rw [HL.out] at this; omega
            go_wp2_with (at_builtin
                         refine wpI_append rfl _ _ rfl w.heap.size _ _ _ (mulTo N xs k) (k : Int) (w5.drewN q2).heap.size rfl rfl HL.out HI6.out (World.cell?_alloc_at _ _ _ _ rfl) (by omega) (by simp; exact Nat.le_succ_of_le hz5) ?_
                         intro A7 c7 w7 ho7 hg7 ha7)
            have HB7 := Lib.hid (HB6.out.trans (below_blk HI6.out hg7 (Nat.le_refl _) (by simp; exact Nat.le_succ_of_le hz5)))
            have HO7 := Lib.hid (show OwnI w7 w.heap.size A7 c7 (mulTo N xs (k + 1)) by rw [HSu.out]; exact ho7)
            have HL7 := Lib.hid (show (mulTo N xs (k + 1)).length = m1 + 1 by rw [HSu.out, List.length_append, HL.out]; rfl)
            have HW7 := Lib.hid (HW6.out.grown hg7 (fun g e => HAp.out g e))
            have HAp7 := Lib.hid (show ∀ g, A2 = some ⟨g, 0, none⟩ → blk A7 ≠ some g from fun g e e2 => by
              rcases ha7 with h | h
              · exact HAp.out g e (h.symm.trans e2)
              · rw [h] at e2
                injection e2 with e2
                have := (HW6.out.lt e).2
                omega)
            clear ho7 hg7 ha7
            go_wp2
            go_roundw
            case rel => exact ⟨k + 1, m1 + 1, A7, c7, by omega, by omega, by go_num, rfl, HL7, HO7, HW7, HAp7, HB7⟩
            case measure => simp [intOf]; omega
          · rw [decide_eq_false he] at HEq
            rw [if_neg he, List.append_nil] at HSu
            clear he
            go_wp2_with fail
            refine (HEq.out).mono ?_
            rintro e w6 ⟨rfl, q2, rfl⟩
            go_wp2
            go_roundw
            case rel => exact ⟨k + 1, m1, A1, c1, by omega, by omega, by go_num, rfl, by rw [HSu.out]; exact HL, Lib.hid (by rw [HSu.out]; exact HO5.out.drewN q2), Lib.hid (HW5.out.drewN q2), HAp, Lib.hid (below_drewN HB5.out q2)⟩
            case measure => simp [intOf]; omega
        · have HSu := Lib.hid (show mulTo N xs (k + 1) = mulTo N xs k by rw [hSu, show mulB N xs k = false from decide_eq_false (fun h => hg h.1)]; simp)
          generalize Nat.gcd k N = G at *
          have hd : ((G : Int) == 1) = false := by simp; omega
          clear hSu hg
          go_wp2_with fail
          refine (HG.out).mono ?_
          rintro e w' ⟨rfl, rfl⟩
          go_wp2
          go_roundw
          case rel => exact ⟨k + 1, m1, A1, c1, by omega, by omega, by go_num, rfl, by rw [HSu.out]; exact HL, by rw [HSu.out]; exact HO, HW, HAp, HB⟩
          case measure => simp [intOf]; omega
      · obtain rfl : k = N := by omega
        go_wp2
        go_ret2
        exact ⟨⟨A1, m1, c1, rfl, HL.out, HO.out⟩, HB.out⟩
  · have hld : decide (lamI N [xs] < 0) = true := by simp; omega
    rw [show mlC (N : Int) xs = 6 by unfold mlC; rw [if_pos ⟨hs, h0⟩]; exact if_neg hlm, show mlL (N : Int) xs = [] by unfold mlL; rw [if_neg (fun h => hlm h.2)]]
    have HFm := Lib.hid hFm
    have HB0 := Lib.hid (fun (q0 : Nat) => (below_drewN (Below.refl w.heap.size w) q0).alloc (Nat.le_refl _) (.cells #[.slice A m c] 35))
    clear hFm hr hm hok hs hS hd0 h0 hlm
    generalize lamI N [xs] = L at *
    go_enter Try.func47, Try.ntmps47
    go_wp2_with fail
    refine (HS.out).mono ?_
    rintro e w' ⟨rfl, q0, rfl⟩
    go_wp2_with fail
    refine (HFm.out q0).mono ?_
    rintro e w1 ⟨rfl, hb1⟩
    have HB1 := Lib.hid ((HB0.out q0).trans (hb1.mono (by simp)))
    clear hb1
    go_wp2
    go_ret2
    exact ⟨⟨none, 0, 0, rfl, rfl, OwnI.nil_ _ _⟩, HB1.out⟩
end Go.Proofs.Ytpgmjfgjlddhgaa
