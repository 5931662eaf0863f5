/-
  MultipliersOf: the multipliers of a difference set, of both sides; slices.Equal, l00Same. Conditions: those of each theorem.
-/
import Derived.Test.YtpgmjfgjlddhgaaNorm
import Derived.Test.YtpgmjfgjlddhgaaFam
namespace Go.Proofs.Ytpgmjfgjlddhgaa
open Go.RowKit
set_option linter.unusedVariables false
set_option linter.unusedSimpArgs false

set_option maxHeartbeats 1000000 in
theorem equal_c (w : World) {A A' : Option Addr} {n n' c c' : Nat} {xs ys : List Int} (hx : RdI w A c xs) (hy : RdI w A' c' ys) (hn : xs.length = n) (hn' : ys.length = n') :
    Calls Try.prog 97 #[.slice A n c, .slice A' n' c'] w (EndQ (.bool (decide (xs = ys))) w) := by
  have hm : n ≤ 9223372036854775807 := by have h1 := hx.le; have h2 := hx.cap; unfold maxLen at h2; omega
  have hm' : n' ≤ 9223372036854775807 := by have h1 := hy.le; have h2 := hy.cap; unfold maxLen at h2; omega
  by_cases hl : n = n'
  · subst hl
    have HX := Lib.hid hx
    have HY := Lib.hid hy
    have HN := Lib.hid hn
    have HN' := Lib.hid hn'
    obtain ⟨T, hT⟩ : ∃ T, T = decide (xs = ys) := ⟨_, rfl⟩
    rw [← hT]
    have HT := Lib.hid (show T = decide (∀ k, k < xs.length → nth xs k = nth ys k) by rw [hT]; exact decide_eq_decide.2 (same_nth (hn.trans hn'.symm)).symm)
    clear hx hy hn hn' hT
    go_enter Try.func97, Try.ntmps97
    go_wp2
    go_loopw [13] (fun i wr => ∃ k : Nat, k ≤ n ∧ i = .int .i64 k ∧ Qt w wr ∧ Hid (∀ j, j < k → nth xs j = nth ys j)) (fun i _ => n - (intOf i).toNat)
    case atStart => exact ⟨0, Nat.zero_le _, rfl, Qt.refl w, fun j hj => absurd hj (by omega)⟩
    case round =>
      obtain ⟨k, hk, rfl, ⟨m, rfl⟩, HEq⟩ := hrel
      by_cases hlt : k < n
      · obtain ⟨b, off, e, hb, hc⟩ := HX.out.at_ k (by rw [HN.out]; exact hlt)
        obtain ⟨b', off', e', hb', hc'⟩ := HY.out.at_ k (by rw [HN'.out]; exact hlt)
        subst e e'
        have hk0 : (0 : Int) ≤ (k : Int) := by omega
        have hk1 : (k : Int) < (n : Int) := by omega
        by_cases hfg : nth xs k = nth ys k
        · have hne : (nth xs k != nth ys k) = false := by simp [hfg]
          have HE2 := Lib.hid (show ∀ j, j < k + 1 → nth xs j = nth ys j from fun j hj => by
            by_cases e : j = k
            · subst e; exact hfg
            · exact HEq.out j (by omega))
          clear hfg
          go_wp2
          go_quiet (fail)
          go_wp2
          go_roundw
          case rel => exact ⟨k + 1, by omega, by go_num, by first | exact qt2 _ _ _ | exact ⟨_, by rw [World.drewN_drewN]⟩ | exact ⟨_, rfl⟩, HE2⟩
          case measure => simp [intOf]; omega
        · have hne : (nth xs k != nth ys k) = true := by simp [hfg]
          have HF := Lib.hid (show T = false by rw [HT.out]; exact decide_eq_false fun h => hfg (h k (by rw [HN.out]; exact hlt)))
          clear hfg
          go_wp2
          go_quiet (fail)
          go_wp2
          go_ret
          exact ⟨ret_b HF.out.symm, by first | exact qt2 _ _ _ | exact ⟨_, by rw [World.drewN_drewN]⟩ | exact ⟨_, rfl⟩⟩
      · obtain rfl : k = n := by omega
        have HF := Lib.hid (show T = true by rw [HT.out]; exact decide_eq_true (by rw [HN.out]; exact HEq.out))
        go_wp2
        go_ret
        exact ⟨ret_b HF.out.symm, m, rfl⟩
  · have hd : ((n : Int) != (n' : Int)) = true := by rw [bne_iff_ne]; omega
    have hd2 : (n != n') = true := by rw [bne_iff_ne]; exact hl
    rw [decide_eq_false (fun e => hl (by rw [← hn, ← hn', e]))]
    clear hx hy hn hn'
    go_enter Try.func97, Try.ntmps97
    go_wp2
    go_ret
    exact ⟨rfl, 0, rfl⟩
set_option maxHeartbeats 1000000 in
theorem same_c (w : World) {A A' : Option Addr} {n n' c c' : Nat} {xs ys : List Int} (hx : RdI w A c xs) (hy : RdI w A' c' ys) (hn : xs.length = n) (hn' : ys.length = n') :
    Calls Try.prog 95 #[.slice A n c, .slice A' n' c'] w (EndQ (.bool (decide (xs = ys))) w) := by
  have hm : n ≤ 9223372036854775807 := by have h1 := hx.le; have h2 := hx.cap; unfold maxLen at h2; omega
  have hm' : n' ≤ 9223372036854775807 := by have h1 := hy.le; have h2 := hy.cap; unfold maxLen at h2; omega
  by_cases hl : n = n'
  · subst hl
    have HX := Lib.hid hx
    have HY := Lib.hid hy
    have HN := Lib.hid hn
    have HN' := Lib.hid hn'
    obtain ⟨T, hT⟩ : ∃ T, T = decide (xs = ys) := ⟨_, rfl⟩
    rw [← hT]
    have HT := Lib.hid (show T = decide (∀ k, k < xs.length → nth xs k = nth ys k) by rw [hT]; exact decide_eq_decide.2 (same_nth (hn.trans hn'.symm)).symm)
    clear hx hy hn hn' hT
    go_enter Try.func95, Try.ntmps95
    go_wp2
    go_loopw [5] (fun i wr => ∃ k : Nat, k ≤ n ∧ i = .int .i64 k ∧ Qt w wr ∧ Hid (∀ j, j < k → nth xs j = nth ys j)) (fun i _ => n - (intOf i).toNat)
    case atStart => exact ⟨0, Nat.zero_le _, rfl, Qt.refl w, fun j hj => absurd hj (by omega)⟩
    case round =>
      obtain ⟨k, hk, rfl, ⟨m, rfl⟩, HEq⟩ := hrel
      by_cases hlt : k < n
      · obtain ⟨b, off, e, hb, hc⟩ := HX.out.at_ k (by rw [HN.out]; exact hlt)
        obtain ⟨b', off', e', hb', hc'⟩ := HY.out.at_ k (by rw [HN'.out]; exact hlt)
        subst e e'
        have hk0 : (0 : Int) ≤ (k : Int) := by omega
        have hk1 : (k : Int) < (n : Int) := by omega
        by_cases hfg : nth xs k = nth ys k
        · have hne : (nth xs k != nth ys k) = false := by simp [hfg]
          have HE2 := Lib.hid (show ∀ j, j < k + 1 → nth xs j = nth ys j from fun j hj => by
            by_cases e : j = k
            · subst e; exact hfg
            · exact HEq.out j (by omega))
          clear hfg
          go_wp2
          go_quiet (fail)
          go_wp2
          go_roundw
          case rel => exact ⟨k + 1, by omega, by go_num, by first | exact qt2 _ _ _ | exact ⟨_, by rw [World.drewN_drewN]⟩ | exact ⟨_, rfl⟩, HE2⟩
          case measure => simp [intOf]; omega
        · have hne : (nth xs k != nth ys k) = true := by simp [hfg]
          have HF := Lib.hid (show T = false by rw [HT.out]; exact decide_eq_false fun h => hfg (h k (by rw [HN.out]; exact hlt)))
          clear hfg
          go_wp2
          go_quiet (fail)
          go_wp2
          go_ret
          exact ⟨ret_b HF.out.symm, by first | exact qt2 _ _ _ | exact ⟨_, by rw [World.drewN_drewN]⟩ | exact ⟨_, rfl⟩⟩
      · obtain rfl : k = n := by omega
        have HF := Lib.hid (show T = true by rw [HT.out]; exact decide_eq_true (by rw [HN.out]; exact HEq.out))
        go_wp2
        go_ret
        exact ⟨ret_b HF.out.symm, m, rfl⟩
  · have hd : ((n : Int) != (n' : Int)) = true := by rw [bne_iff_ne]; omega
    have hd2 : (n != n') = true := by rw [bne_iff_ne]; exact hl
    rw [decide_eq_false (fun e => hl (by rw [← hn, ← hn', e]))]
    clear hx hy hn hn'
    go_enter Try.func95, Try.ntmps95
    go_wp2
    go_ret
    exact ⟨rfl, 0, rfl⟩

theorem RdM.lit1 {w : World} {A : Option Addr} {c n : Nat} {xs : List Int} (hr : RdI w A c xs) (hn : xs.length = n) : RdM (w.alloc (.cells #[.slice A n c] 35)) (some ⟨w.heap.size, 0, none⟩) 1 (fun _ => (A, c)) [xs] :=
  ⟨by simp, by unfold maxLen; omega, fun k hk => by
    obtain rfl : k = 0 := by simp at hk; omega
    refine ⟨w.heap.size, 0, rfl, by simp, ?_⟩
    show _ = some (Value.slice A xs.length c)
    rw [hn]
    simp [go_sem], fun k hk => by
    obtain rfl : k = 0 := by simp at hk; omega
    exact hr.below ((Below.refl _ _).alloc (Nat.le_refl _) _)⟩
theorem mv_set13 {N : Nat} {xs : List Int} (h : Set13 (N : Int) xs) (t b : Nat) : Set13 (N : Int) (mvL N xs (t : Int) (b : Int)) := by
  obtain ⟨⟨hN1, hN2⟩, hbd, _, _⟩ := set13_facts h
  refine ⟨h.1, rise_of (putsTo_rise _ _) fun z hz => ?_⟩
  obtain ⟨j, hj, e⟩ := putsTo_mem.1 hz
  have h1 := hbd j hj
  obtain ⟨u, hu⟩ : ∃ u : Nat, nth xs j = (u : Int) := ⟨(nth xs j).toNat, by omega⟩
  rw [mvF_nat hu] at e
  have := Nat.mod_lt (u * t + b) (show 0 < N by omega)
  omega

/-- t does not change the least translate. -/
def mulB (N : Nat) (xs : List Int) (t : Nat) : Bool := decide (Nat.gcd t N = 1 ∧ nmTo N (mvL N xs (t : Int) 0) N = nmTo N xs N)
def mulTo (N : Nat) (xs : List Int) (k : Nat) : List Int := ((List.range k).filter fun t => decide (1 ≤ t) && mulB N xs t).map fun (t : Nat) => (t : Int)
theorem mulTo_succ (N : Nat) (xs : List Int) {k : Nat} (hk : 1 ≤ k) : mulTo N xs (k + 1) = mulTo N xs k ++ if mulB N xs k = true then [(k : Int)] else [] := by
  unfold mulTo
  rw [List.range_succ, List.filter_append, List.map_append]
  congr 1
  rcases hb : mulB N xs k with _ | _
  · simp [hb]
  · simp [hb, hk]
theorem mulTo_one (N : Nat) (xs : List Int) : mulTo N xs 1 = [] := by simp [mulTo, List.range_succ]
theorem mulTo_len (N : Nat) (xs : List Int) (k : Nat) : (mulTo N xs k).length ≤ k := by
  unfold mulTo
  rw [List.length_map]
  exact Nat.le_trans (List.length_filter_le _ _) (by simp)
def mlOk (n : Int) (xs : List Int) : Prop := set13 n xs = true ∧ xs ≠ []
instance (n : Int) (xs : List Int) : Decidable (mlOk n xs) := by unfold mlOk; infer_instance
def mlL (n : Int) (xs : List Int) : List Int := if mlOk n xs ∧ 0 ≤ lamI n.toNat [xs] then mulTo n.toNat xs n.toNat else []
def mlC (n : Int) (xs : List Int) : Int := if mlOk n xs then (if 0 ≤ lamI n.toNat [xs] then 0 else 6) else 1
theorem MultipliersOf_small (n : Int) (xs : List Int) : (mlL n xs).length ≤ 1048576 := by
  unfold mlL
  split
  · next h =>
    have h1 := mulTo_len n.toNat xs n.toNat
    have h2 := (of_decide_eq_true h.1.1 : Set13 n xs).1
    omega
  · simp
theorem sets1 {N : Nat} {xs : List Int} (h : Set13 (N : Int) xs) (h0 : xs ≠ []) : SetsOk N [xs] := by
  have h1 := (set13_facts h).1
  refine ⟨h1.1, h1.2, fun i hi => ?_⟩
  obtain rfl : i = 0 := by simp at hi; omega
  exact ⟨h.2, List.length_pos_iff.2 h0⟩

set_option maxRecDepth 100000 in
set_option maxHeartbeats 4000000 in
theorem implMultipliersOf_c (w : World) (n : Int) (hn64 : -9223372036854775808 ≤ n ∧ n ≤ 9223372036854775807) (A : Option Addr) (m c : Nat) (xs : List Int) (hr : RdI w A c xs) (hm : xs.length = m) (hw : WfL xs) (hz : (m : Int) ≤ 1048576) (hd0 : A = none → c = 0) :
    Calls Try.prog 48 #[.int .i64 n, .slice A m c] w (PostSC w (mlL n xs) (mlC n xs)) := by
  have hS := isResidueSet_c w A m c xs n hr hm
  rcases hs : set13 n xs with _ | _
  · rw [hs] at hS
    rw [show mlC n xs = 1 by simp [mlC, mlOk, hs], show mlL n xs = [] by simp [mlL, mlOk, hs]]
    have HS := Lib.hid hS
    clear hS hs hr hm hd0
    go_enter Try.func48, Try.ntmps48
    go_wp2_with fail
    refine (HS.out).mono ?_
    rintro e w1 ⟨rfl, rfl⟩
    go_wp2
    go_ret2
    exact ⟨⟨none, 0, 0, rfl, rfl, OwnI.nil_ _ _⟩, Below.refl _ _⟩
  rw [hs] at hS
  have HS := Lib.hid hS
  have hok : Set13 n xs := of_decide_eq_true hs
  by_cases h0 : xs = []
  · rw [show mlC n xs = 1 by simp [mlC, mlOk, h0], show mlL n xs = [] by simp [mlL, mlOk, h0]]
    obtain rfl : m = 0 := by rw [← hm, h0]; rfl
    clear hS hs hr hm hd0 hok h0
    go_enter Try.func48, Try.ntmps48
    go_wp2_with fail
    refine (HS.out).mono ?_
    rintro e w1 ⟨rfl, rfl⟩
    go_wp2
    go_ret2
    exact ⟨⟨none, 0, 0, rfl, rfl, OwnI.nil_ _ _⟩, Below.refl _ _⟩
  have hmp : 0 < m := by rw [← hm]; exact List.length_pos_iff.2 h0
  have hme : ((m : Int) == 0) = false := by simp; omega
  have hme2 : (m == 0) = false := by simp; omega
  obtain ⟨N, rfl⟩ : ∃ N : Nat, n = (N : Int) := ⟨n.toNat, by have := hok.1; omega⟩
  have hN := (set13_facts hok).1
  have hFm := familyLambda_c (w.alloc (.cells #[.slice A m c] 35)) N (some ⟨w.heap.size, 0, none⟩) 1 1 (fun _ => (A, c)) [xs] (RdM.lit1 hr hm) rfl (sets1 hok h0) (by omega)
  by_cases hlm : 0 ≤ lamI N [xs]
  · rw [if_pos hlm, decide_eq_true hlm] at hFm
    rw [show mlC (N : Int) xs = 0 by unfold mlC; rw [if_pos ⟨hs, h0⟩]; exact if_pos hlm, show mlL (N : Int) xs = mulTo N xs N by unfold mlL; rw [if_pos ⟨⟨hs, h0⟩, hlm⟩]; rfl]
    have HFm := Lib.hid hFm
    have HNm := Lib.hid (fun (W : World) (hb : Below w.heap.size w W) => normalSet_c W N A m c xs (hr.below hb) hm hok)
    have HMu := Lib.hid (fun (W : World) (hb : Below w.heap.size w W) (t : Nat) (ht : t < N) (hg : Nat.gcd t N = 1) => multiply_c W N A m c xs (hr.below hb) hm hok t (by omega) hg)
    have HNs := Lib.hid (fun (W : World) (t : Nat) (A' : Option Addr) (n' c' : Nat) (h : RdI W A' c' (mvL N xs (t : Int) 0)) (hl : (mvL N xs (t : Int) 0).length = n') => normalSet_c W N A' n' c' (mvL N xs (t : Int) 0) h hl (mv_set13 hok t 0))
    have HOk := Lib.hid hok
    have HB0 := Lib.hid (below_boxed w (.cells #[.slice A m c] 35))
    generalize lamI N [xs] = L at *
    clear hFm hr hm hok hs hS hd0 h0
    go_enter Try.func48, Try.ntmps48
    go_wp2_with fail
    refine (HS.out).mono ?_
    rintro e w' ⟨rfl, rfl⟩
    go_wp2_with fail
    refine (HFm.out).mono ?_
    rintro e w1 ⟨rfl, hb1⟩
    have HB1 := Lib.hid (HB0.out.trans (hb1.mono (by simp)))
    clear hb1
    go_wp2_with fail
    refine (HNm.out w1 HB1.out).mono ?_
    rintro e w2 ⟨⟨A2, n2, c2, rfl, hn2, ho2⟩, hb2⟩
    have hz1 := HB1.out.size
    have HO2 := Lib.hid (ho2.lower (lo' := w.heap.size) hz1)
    have HB2 := Lib.hid (HB1.out.trans (hb2.mono hz1))
    have HL2 := Lib.hid hn2
    have hz2 := HB2.out.size
    clear hn2 ho2 hb2
    go_wp2
    go_loopw [9, 10] (fun o i wr => ∃ (k m1 : Nat) (A1 : Option Addr) (c1 : Nat), 1 ≤ k ∧ k ≤ N ∧ i = .int .i64 k ∧ o = .slice A1 m1 c1 ∧ Hid ((mulTo N xs k).length = m1) ∧ Hid (OwnI wr w2.heap.size A1 c1 (mulTo N xs k)) ∧ Hid (Below w2.heap.size w2 wr)) (fun _ i _ => N - (intOf i).toNat)
    case atStart => exact ⟨1, 0, none, 0, Nat.le_refl _, hN.1, rfl, rfl, Lib.hid (by rw [mulTo_one]; rfl), Lib.hid (by rw [mulTo_one]; exact OwnI.nil_ _ _), Lib.hid (Below.refl _ _)⟩
    case round =>
      obtain ⟨k, m1, A1, c1, hk1, hk, rfl, rfl, HL, HO, HB⟩ := hrel
      have HBw := Lib.hid (HB2.out.trans (HB.out.mono hz2))
      by_cases hlt : k < N
      · have HG := Lib.hid (gcd_c wr k N (by omega) (by omega))
        have hSu := mulTo_succ N xs hk1
        by_cases hg : Nat.gcd k N = 1
        · rw [hg] at HG
          have HMk := Lib.hid (fun (q : Nat) => HMu.out (wr.drewN q) (below_drewN HBw.out q) k hlt hg)
          have HSu := Lib.hid (show mulTo N xs (k + 1) = mulTo N xs k ++ if nmTo N (mvL N xs (k : Int) 0) N = nmTo N xs N then [(k : Int)] else [] by
            rw [hSu]; congr 1; unfold mulB; simp [hg])
          clear hSu hg
          go_wp2_with fail
          refine (HG.out).mono ?_
          rintro e w3 ⟨rfl, q, rfl⟩
          go_wp2_with fail
          refine (HMk.out q).mono ?_
          rintro e w4 ⟨⟨A4, n4, c4, rfl, hn4, ho4⟩, hb4⟩
          have HNk := Lib.hid (HNs.out w4 k A4 n4 c4 ho4.rd hn4)
          have HB4 := Lib.hid ((below_drewN HB.out q).trans (hb4.mono HB.out.size))
          have HO4 := Lib.hid ((HO.out.drewN q).below hb4)
          clear hn4 ho4 hb4
          go_wp2_with fail
          refine (HNk.out).mono ?_
          rintro e w5 ⟨⟨A5, n5, c5, rfl, hn5, ho5⟩, hb5⟩
          have HB5 := Lib.hid (HB4.out.trans (hb5.mono HB4.out.size))
          have HO5 := Lib.hid (HO4.out.below hb5)
          have HEq := Lib.hid (equal_c w5 ho5.rd (HO2.out.below HB5.out).rd hn5 HL2.out)
          clear hn5 ho5 hb5
          by_cases he : nmTo N (mvL N xs (k : Int) 0) N = nmTo N xs N
          · rw [decide_eq_true he] at HEq
            rw [if_pos he] at HSu
            clear he
            go_wp2_with fail
            refine (HEq.out).mono ?_
            rintro e w6 ⟨rfl, q2, rfl⟩
            have hz5 := HB5.out.size
            have HI6 := Lib.hid ((HO5.out.drewN q2).alloc (.cells #[.int .i64 (k : Int)] 2))
            have HB6 := Lib.hid ((below_drewN HB5.out q2).alloc (by show w2.heap.size ≤ (w5.drewN q2).heap.size; exact hz5) (.cells #[.int .i64 (k : Int)] 2))
            have hm1 : m1 ≤ 32 := by have := mulTo_len N xs k; rw [HL.out] at this; omega
            go_wp2_with (at_builtin
                         refine wpI_append rfl _ _ rfl w2.heap.size _ _ _ (mulTo N xs k) (k : Int) (w5.drewN q2).heap.size rfl rfl HL.out HI6.out (World.cell?_alloc_at _ _ _ _ rfl) (by omega) (by simp; exact Nat.le_succ_of_le hz5) ?_
                         intro A7 c7 w7 ho7 hg7 ha7)
            have HB7 := Lib.hid (HB6.out.trans (below_blk HI6.out hg7 (Nat.le_refl _) (by simp; exact Nat.le_succ_of_le hz5)))
            have HO7 := Lib.hid (show OwnI w7 w2.heap.size A7 c7 (mulTo N xs (k + 1)) by rw [HSu.out]; exact ho7)
            have HL7 := Lib.hid (show (mulTo N xs (k + 1)).length = m1 + 1 by rw [HSu.out, List.length_append, HL.out]; rfl)
            clear ho7 hg7 ha7
            go_wp2
            go_roundw
            case rel => exact ⟨k + 1, m1 + 1, A7, c7, by omega, by omega, by go_num, rfl, HL7, HO7, HB7⟩
            case measure => simp [intOf]; omega
          · rw [decide_eq_false he] at HEq
            rw [if_neg he, List.append_nil] at HSu
            clear he
            go_wp2_with fail
            refine (HEq.out).mono ?_
            rintro e w6 ⟨rfl, q2, rfl⟩
            go_wp2
            go_roundw
            case rel => exact ⟨k + 1, m1, A1, c1, by omega, by omega, by go_num, rfl, by rw [HSu.out]; exact HL, Lib.hid (by rw [HSu.out]; exact HO5.out.drewN q2), Lib.hid (below_drewN HB5.out q2)⟩
            case measure => simp [intOf]; omega
        · have HSu := Lib.hid (show mulTo N xs (k + 1) = mulTo N xs k by rw [hSu, show mulB N xs k = false from decide_eq_false (fun h => hg h.1)]; simp)
          generalize Nat.gcd k N = G at *
          have hd : ((G : Int) == 1) = false := by simp; omega
          clear hSu hg
          go_wp2_with fail
          refine (HG.out).mono ?_
          rintro e w3 ⟨rfl, q, rfl⟩
          go_wp2
          go_roundw
          case rel => exact ⟨k + 1, m1, A1, c1, by omega, by omega, by go_num, rfl, by rw [HSu.out]; exact HL, Lib.hid (by rw [HSu.out]; exact HO.out.drewN q), Lib.hid (below_drewN HB.out q)⟩
          case measure => simp [intOf]; omega
      · obtain rfl : k = N := by omega
        have HOf := Lib.hid (HO.out.lower (lo' := w.heap.size) hz2)
        go_wp2
        go_ret2
        exact ⟨⟨A1, m1, c1, rfl, HL.out, HOf.out⟩, HBw.out⟩
  · rw [if_neg hlm, decide_eq_false hlm] at hFm
    rw [show mlC (N : Int) xs = 6 by unfold mlC; rw [if_pos ⟨hs, h0⟩]; exact if_neg hlm, show mlL (N : Int) xs = [] by unfold mlL; rw [if_neg (fun h => hlm h.2)]]
    have HFm := Lib.hid hFm
    have HB0 := Lib.hid (below_boxed w (.cells #[.slice A m c] 35))
    clear hFm hr hm hok hs hS hd0 h0 hlm
    go_enter Try.func48, Try.ntmps48
    go_wp2_with fail
    refine (HS.out).mono ?_
    rintro e w' ⟨rfl, rfl⟩
    go_wp2_with fail
    refine (HFm.out).mono ?_
    rintro e w1 ⟨rfl, hb1⟩
    have HB1 := Lib.hid (HB0.out.trans (hb1.mono (by simp)))
    clear hb1
    go_wp2
    go_ret2
    exact ⟨⟨none, 0, 0, rfl, rfl, OwnI.nil_ _ _⟩, HB1.out⟩
end Go.Proofs.Ytpgmjfgjlddhgaa
