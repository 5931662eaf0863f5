/-
  CyclesOfPair of the program. Conditions: those of each theorem.
-/
import Derived.Test.YtambaonoeppblaaCypQ
namespace Go.Proofs.Ytambaonoeppblaa
open Go.RowKit
set_option linter.unusedVariables false
set_option linter.unusedSimpArgs false

theorem flag_set (bs : List Bool) (j z : Nat) (hj : j < bs.length) : flag (bs.set j true) z = (decide (z = j) || flag bs z) := by
  unfold flag
  by_cases e : z = j
  · subst e; rw [List.getElem?_set_self hj]; simp
  · rw [List.getElem?_set_ne (by omega)]; simp [e]
theorem hasB_snoc (L : List Int) (j z : Nat) : hasB (L ++ [(j : Int)]) (z : Int) = (decide (z = j) || hasB L (z : Int)) := by
  rw [Bool.eq_iff_iff, hasB_true, Bool.or_eq_true, decide_eq_true_eq, hasB_true, List.mem_append, List.mem_singleton]
  constructor
  · rintro (h | h)
    · exact .inr h
    · exact .inl (by omega)
  · rintro (h | h)
    · exact .inr (by omega)
    · exact .inl h
/-- The flags are those of a list. -/
def FlagsOf (P : Nat) (bs : List Bool) (L : List Int) : Prop := bs.length = P ∧ ∀ z, z < P → flag bs z = hasB L (z : Int)
theorem FlagsOf.snoc {P : Nat} {bs : List Bool} {L : List Int} (h : FlagsOf P bs L) {j : Nat} (hj : j < P) : FlagsOf P (bs.set j true) (L ++ [(j : Int)]) :=
  ⟨by rw [List.length_set]; exact h.1, fun z hz => by rw [flag_set _ _ _ (by rw [h.1]; exact hj), hasB_snoc, h.2 z hz]⟩
theorem FlagsOf.zero (P : Nat) : FlagsOf P (List.replicate P false) [] := ⟨by simp, fun z hz => by
  unfold flag hasB
  simp [hz]⟩

set_option maxRecDepth 100000 in
set_option maxHeartbeats 8000000 in
theorem implCyclesOfPair_c (w : World) (p : Int) (hp : -9223372036854775808 ≤ p ∧ p ≤ 9223372036854775807) (A : Option Addr) (n c : Nat) (R : Spine) (xss : List (List Int)) (hr : RdM w A c R xss) (hn : xss.length = n) (hw : WfM xss) (hz : (n : Int) + (tot xss : Nat) ≤ 1048576)
    (a : Int) (ha : -9223372036854775808 ≤ a ∧ a ≤ 9223372036854775807) (b : Int) (hb : -9223372036854775808 ≤ b ∧ b ≤ 9223372036854775807) :
    Calls Try.prog 14 #[.agg #[.int .i64 p, .slice A n c], .int .i64 a, .int .i64 b] w (PostSC w (cpL p xss a b) (twoI p xss a b)) := by
  have hB0 := below_boxed w (.cells #[.int .i64 p, .slice A n c] 24)
  have hX := BoxD.made w p A n c 24
  have HO := Lib.hid (differentPoints_c _ p A n c R xss (hr.below hB0) hn a b ha hb)
  have HB0 := Lib.hid hB0
  by_cases h0 : twoI p xss a b = 0
  rotate_left
  · rw [show cpL p xss a b = [] by unfold cpL; rw [if_neg h0]]
    have hd : (twoI p xss a b != 0) = true := by rw [bne_iff_ne]; exact h0
    generalize twoI p xss a b = z at *
    clear hB0 hX hr hn h0 ha hb hp hw hz
    go_enter Try.func14, Try.ntmps14
    go_wp2_with fail
    refine (HO.out).mono ?_
    rintro e w1 ⟨rfl, hb1⟩
    have hB := HB0.out.trans (hb1.mono HB0.out.size)
    go_wp2
    go_ret2
    exact ⟨⟨none, 0, 0, rfl, rfl, OwnI.nil_ _ _⟩, hB⟩
  obtain ⟨ht, h1, h2, h3⟩ := twoI_zero h0
  obtain ⟨P, rfl⟩ : ∃ P : Nat, p = (P : Int) := ⟨p.toNat, by omega⟩
  obtain ⟨x0, rfl⟩ : ∃ x : Nat, a = (x : Int) := ⟨a.toNat, by omega⟩
  obtain ⟨y0, rfl⟩ : ∃ y : Nat, b = (y : Int) := ⟨b.toNat, by omega⟩
  have hs := trip_sys ht
  have hP1 : 1 ≤ P := by have := hs.1.1.1; omega
  have hP2 : P ≤ 32 := by have := hs.1.1.2; omega
  have hne : x0 ≠ y0 := by omega
  have hx0 : x0 < P := by omega
  have hy0 : y0 < P := by omega
  have HC := Lib.hid (fun (W : World) (hb : Below w.heap.size w W) => thirdPoints_c W P A n c R xss (hr.below hb) hn hs.1 hs.2)
  have HX := Lib.hid hX
  rw [show cpL (P : Int) xss (x0 : Int) (y0 : Int) = sortL (lnTo (thN xss x0) (thN xss y0) P (D0 xss x0 y0) P) by unfold cpL; rw [if_pos h0]; rfl, h0]
  rw [h0] at HO
  have HDi := Lib.hid (th_dih hs.2 hne hx0 hy0)
  have HCl := Lib.hid (th_clo (P := P) xss x0 y0)
  have HEq := Lib.hid (fun (u y : Nat) (hu : u < P) (hy : y < P) => thN_eq hs.2 hu hy)
  obtain ⟨al, hal⟩ : ∃ al, al = thN xss x0 := ⟨_, rfl⟩
  obtain ⟨be, hbe⟩ : ∃ be, be = thN xss y0 := ⟨_, rfl⟩
  have HAl := Lib.hid hal
  have HBe := Lib.hid hbe
  have HDi := Lib.hid (show Dih P (ptE xss x0 y0) al be by rw [hal, hbe]; exact HDi.out)
  have HCl := Lib.hid (show Clo P (ptE xss x0 y0) al be (D0 xss x0 y0) by rw [hal, hbe]; exact HCl.out)
  have HDe := Lib.hid (show D0 xss x0 y0 = [(x0 : Int), (y0 : Int), ((al y0 : Nat) : Int)] by rw [hal]; rfl)
  rw [← hal, ← hbe]
  generalize D0 xss x0 y0 = D at *
  generalize ptE xss x0 y0 = EE at *
  clear hal hbe
  clear hB0 hX hr hn h0 ht h1 h2 h3 hs ha hb hp hw hz
  have ha0 : (0 : Int) ≤ (x0 : Int) := by omega
  have ha2 : (x0 : Int) < (P : Int) := by omega
  have hb0 : (0 : Int) ≤ (y0 : Int) := by omega
  have hb2 : (y0 : Int) < (P : Int) := by omega
  go_enter Try.func14, Try.ntmps14
  go_wp2_with fail
  refine (HO.out).mono ?_
  rintro e w1 ⟨rfl, hb1⟩
  have HB1 := Lib.hid (HB0.out.trans (hb1.mono HB0.out.size))
  have HX1 := Lib.hid (HX.out.below hb1)
  have hc0 := HX1.out.c0
  have hc1 := HX1.out.c1
  clear hb1
  go_wp2_with fail
  refine (HC.out _ HB1.out).mono ?_
  rintro e w2 ⟨⟨A3, n3, c3, R3, rfl, hn3, ho3⟩, hb3⟩
  obtain rfl : P = n3 := by rw [length_sqTo] at hn3; exact hn3
  have HB2 := Lib.hid (HB1.out.trans (hb3.mono HB1.out.size))
  have HX2 := Lib.hid (HX1.out.below hb3)
  obtain ⟨G, gA, eG, eA, _, hgA, hcA, hrA⟩ := ho3.sq_row hx0 (by omega)
  obtain ⟨G', gB, eG', eB, _, hgB, hcB, hrB⟩ := ho3.sq_row hy0 (by omega)
  subst eG
  injection eG' with eG'
  injection eG' with eG'
  subst eG'
  have hG : G < w2.heap.size := (ho3.lt rfl).2
  have HcA := Lib.hid hcA
  have HcB := Lib.hid hcB
  have HrA := Lib.hid (show ∀ j, j < P → w2.cell? ⟨gA, j, none⟩ = some (.int .i64 ((al j : Nat) : Int)) from fun j hj => by rw [(hrA j hj).1, (HEq.out x0 j hx0 hj).1, HAl.out])
  have HrB := Lib.hid (show ∀ j, j < P → w2.cell? ⟨gB, j, none⟩ = some (.int .i64 ((be j : Nat) : Int)) from fun j hj => by rw [(hrB j hj).1, (HEq.out y0 j hy0 hj).1, HBe.out])
  have hcP := HX2.out.c0
  have hcab := HrA.out y0 hy0
  have hz2P : al y0 < P := by rw [HAl.out]; exact (HEq.out x0 y0 hx0 hy0).2
  generalize hCA : (R3 x0).2 = CA at *
  generalize hCB : (R3 y0).2 = CB at *
  obtain ⟨z0, hz0⟩ : ∃ z0, z0 = al y0 := ⟨_, rfl⟩
  rw [← hz0] at hcab HDe hz2P
  have hwz := HB2.out.size
  have HMd := Lib.hid (OwnB.made w2 P (by unfold maxLen; omega) (Nat.le_refl w2.heap.size))
  have HLt := Lib.hid (show ∀ W : World, RdI (W.alloc (.cells #[.int .i64 (x0 : Int), .int .i64 (y0 : Int), .int .i64 (z0 : Int)] 2)) (some ⟨W.heap.size, 0, none⟩) 3 [(x0 : Int), (y0 : Int), (z0 : Int)] from fun W => (OwnI.tri W _ _ _ (Nat.le_refl _)).rd)
  clear hn3 ho3 hb3 hc0 hc1 hrA hrB hz0 HAl HBe eA eB HC HEq hCA hCB
  have hmP : (0 : Int) ≤ (P : Int) := by omega
  have hmk := fun W : World => run_make_row' (P := Try.prog) 56 4 (.bool false) 1 Try.underlying56 infoB rfl .i64 .i64 P (by omega) (by omega) W
  go_wp2
  clear hmk
  obtain ⟨wb, hwb⟩ : ∃ wb, wb = (w2.alloc (.cells (madeCells #[.bool false] P) 4)).alloc (.cells #[.int .i64 (x0 : Int), .int .i64 (y0 : Int), .int .i64 (z0 : Int)] 2) := ⟨_, rfl⟩
  have HLw := Lib.hid (show RdI wb (some ⟨w2.heap.size + 1, 0, none⟩) 3 [(x0 : Int), (y0 : Int), (z0 : Int)] from by rw [hwb]; simpa using HLt.out (w2.alloc (.cells (madeCells #[.bool false] P) 4)))
  have HSb := Lib.hid (show OwnB wb w2.heap.size w2.heap.size P (List.replicate P false) from by rw [hwb]; exact HMd.out.alloc _)
  have HBb := Lib.hid (show Below w2.heap.size w2 wb from by rw [hwb]; exact ((Below.refl w2.heap.size w2).alloc (Nat.le_refl _) _).alloc (by simp) _)
  have hwbz : wb.heap.size = w2.heap.size + 2 := by rw [hwb]; simp
  (try rw [← hwb])
  clear hwb HMd HLt
  go_loopw [40] (fun i wr => ∃ (k : Nat) (bs : List Bool), k ≤ 3 ∧ i = .int .i64 k ∧ Hid (FlagsOf P bs (D.take k)) ∧ Hid (OwnB wr w2.heap.size w2.heap.size P bs) ∧ Hid (Below w2.heap.size w2 wr) ∧ Hid (RdI wr (some ⟨w2.heap.size + 1, 0, none⟩) 3 [(x0 : Int), (y0 : Int), (z0 : Int)]) ∧ wr.heap.size = w2.heap.size + 2) (fun i _ => 3 - (intOf i).toNat)
  case atStart => exact ⟨0, _, Nat.zero_le _, rfl, Lib.hid (by rw [List.take_zero]; exact FlagsOf.zero P), HSb, HBb, HLw, hwbz⟩
  case round =>
    obtain ⟨k, bs, hk, rfl, HFl, HSb, HBb, HLw, hwz3⟩ := hrel
    by_cases hk3 : k < 3
    · obtain ⟨v, hv⟩ : ∃ v : Nat, (v : Int) = nth [(x0 : Int), (y0 : Int), (z0 : Int)] k ∧ v < P := by
        rcases (show k = 0 ∨ k = 1 ∨ k = 2 by omega) with rfl | rfl | rfl
        · exact ⟨x0, rfl, hx0⟩
        · exact ⟨y0, rfl, hy0⟩
        · exact ⟨z0, rfl, hz2P⟩
      obtain ⟨hv, hvP⟩ := hv
      have hkl : k < ([(x0 : Int), (y0 : Int), (z0 : Int)] : List Int).length := hk3
      obtain ⟨_, _, e9, _, hc9⟩ := HLw.out.at_ k hkl
      injection e9 with e9
      injection e9 with e91 e92
      subst e91 e92
      rw [← hv, Nat.zero_add] at hc9
      have hfz := (HSb.out.at_ hvP).2
      have hcs := (HSb.out.at_ hvP).1
      have HT := Lib.hid (show D.take (k + 1) = D.take k ++ [(v : Int)] by rw [hv, HDe.out]; exact take_nth hkl)
      have hv0 : (0 : Int) ≤ (v : Int) := by omega
      have hv2 : (v : Int) < (P : Int) := by omega
      have HFl2 := Lib.hid (show FlagsOf P (bs.set v true) (D.take (k + 1)) from by rw [HT.out]; exact HFl.out.snoc hvP)
      have HSb2 := Lib.hid (HSb.out.stored v true)
      have HBb2 := Lib.hid (HBb.out.setCell (p := ⟨w2.heap.size, v, none⟩) (Nat.le_refl _) (.bool true))
      have HLw2 := Lib.hid (show RdI (wr.setCell ⟨w2.heap.size, v, none⟩ (.bool true)) (some ⟨w2.heap.size + 1, 0, none⟩) 3 [(x0 : Int), (y0 : Int), (z0 : Int)] from
        ⟨HLw.out.le, HLw.out.cap, fun j hj => by
          obtain ⟨b9, o9, e9, h9, c9⟩ := HLw.out.at_ j hj
          refine ⟨b9, o9, e9, by simpa using h9, ?_⟩
          rw [World.cell?_setCell_other _ _ _ _ (by intro e; injection e9 with e9; injection e9 with e91 e92; injection e with e1 e2; omega)]
          exact c9⟩)
      clear hv
      go_wp2
      go_roundw
      case rel => exact ⟨k + 1, bs.set v true, by omega, by go_num, HFl2, HSb2, HBb2, HLw2, by first | exact hwz3 | (simp; exact hwz3)⟩
      case measure => simp [intOf]; omega
    · obtain rfl : k = 3 := by omega
      have HFl0 := Lib.hid (show FlagsOf P bs (dnTo al be P D 0) from by
        have : D.take 3 = D := by rw [HDe.out]; rfl
        rw [this] at HFl; exact HFl.out)
      have hcPr := (HBb.out.cell (p := ⟨w.heap.size, 0, none⟩) HX2.out.lt).trans hcP
      obtain ⟨wc, rfl⟩ : ∃ wc, wc = wr := ⟨_, rfl⟩
      have HI0 := Lib.hid (OwnI.nil_ wc wc.heap.size)
      clear HFl
      go_wp2
      clear hcPr
      go_loopw [13, 14, 15, 16, 50] (fun o _ _ _ i wr => ∃ (x ol c : Nat) (A : Option Addr) (bs : List Bool), x ≤ P ∧ i = .int .i64 x ∧ o = .slice A ol c ∧ Hid ((lnTo al be P D x).length = ol) ∧ Hid (FlagsOf P bs (dnTo al be P D x)) ∧ Hid (OwnB wr w2.heap.size w2.heap.size P bs) ∧ Hid (OwnI wr wc.heap.size A c (lnTo al be P D x)) ∧ Hid (Below w2.heap.size w2 wr) ∧ Hid (wc.heap.size ≤ wr.heap.size)) (fun _ _ _ _ i _ => P - (intOf i).toNat)
      case atStart => exact ⟨0, 0, 0, none, bs, Nat.zero_le _, rfl, rfl, Lib.hid rfl, HFl0, HSb, HI0, HBb, Lib.hid (Nat.le_refl _)⟩
      case round =>
        obtain ⟨x, ol, c9, A9, bs, hx, rfl, rfl, HOL, HFx, HSx, HOx, HBx, HZx⟩ := hrel
        have hol : ol ≤ x := by have := lnTo_len al be P D x; rw [HOL.out] at this; exact this
        have hzx := HZx.out
        by_cases hxP : x < P
        rotate_left
        · obtain rfl : x = P := by omega
          have HSo := Lib.hid (sort_c wr HOx.out HOL.out (by omega))
          have HBw := Lib.hid (HB2.out.trans (HBx.out.mono hwz))
          have HLs := Lib.hid (show (sortL (lnTo al be x D x)).length = ol by rw [sortL_len]; exact HOL.out)
          go_wp2_with fail
          refine (HSo.out).mono ?_
          rintro e w5 ⟨rfl, ho5, hg5⟩
          have HO5 := Lib.hid (ho5.lower (lo' := w.heap.size) (by omega))
          have HB5 := Lib.hid (HBw.out.trans (below_blk HOx.out hg5 (by omega) HBw.out.size))
          clear ho5 hg5
          go_wp2
          go_ret2
          exact ⟨⟨A9, ol, c9, rfl, HLs.out, HO5.out⟩, HB5.out⟩
        have hx0' : (0 : Int) ≤ (x : Int) := by omega
        have hx2' : (x : Int) < (P : Int) := by omega
        have hce := Clo.all HDi.out HCl.out hx
        obtain ⟨K, hK, HFr, HBk, hT1, hT2, hEx⟩ : ∃ K, K ≤ P ∧ Hid (∀ k, k < K → hasB (dnK al be P D x k) ((sg al be x k : Nat) : Int) = false) ∧ Hid (hasB (dnK al be P D x K) ((sg al be x K : Nat) : Int) = true) ∧ Hid (dnTo al be P D (x + 1) = dnK al be P D x K) ∧
            Hid (lnTo al be P D (x + 1) = if K = 0 then lnTo al be P D x else lnTo al be P D x ++ [((2 * K : Nat) : Int)]) ∧ Hid (0 < K → ¬ EE x) := by
          rcases hm : hasB (dnTo al be P D x) (x : Int) with _ | _
          · have hn := hasB_false.1 hm
            have he : ¬ EE x := fun e => hn (hce.e x hxP e)
            have hp := HDi.out.per_all hxP he
            refine ⟨per al be P x, hp.2.1, Lib.hid (fun k hk => hasB_false.2 (Clo.fresh HDi.out hce hxP hn hk)), Lib.hid (hasB_true.2 (Clo.back HDi.out hce hxP hn)), Lib.hid (by rw [dnTo, if_neg (by rw [hm]; simp)]; rfl), Lib.hid (by rw [lnTo, if_neg (by rw [hm]; simp), if_neg (by omega)]), Lib.hid (fun _ => he)⟩
          · exact ⟨0, by omega, Lib.hid (fun k hk => absurd hk (by omega)), Lib.hid (by rw [dnK_zero]; exact hm), Lib.hid (by rw [dnTo, if_pos hm, dnK_zero]), Lib.hid (by rw [lnTo, if_pos hm, if_pos rfl]), Lib.hid (fun h => absurd h (by omega))⟩
        have HFx0 := Lib.hid (show FlagsOf P bs (dnK al be P D x 0) from by rw [dnK_zero]; exact HFx.out)
        clear hce HFx
        obtain ⟨wd, rfl⟩ : ∃ wd, wd = wr := ⟨_, rfl⟩
        go_wp2
        go_loopw [15, 16] (fun q y wr => ∃ (k : Nat) (bs : List Bool), k ≤ K ∧ q = .int .i64 ((2 * k : Nat) : Int) ∧ y = .int .i64 ((sg al be x k : Nat) : Int) ∧ Hid (FlagsOf P bs (dnK al be P D x k)) ∧ Hid (OwnB wr w2.heap.size w2.heap.size P bs) ∧ Hid (OwnI wr wc.heap.size A9 c9 (lnTo al be P D x)) ∧ Hid (Below w2.heap.size w2 wr) ∧ Hid (wc.heap.size ≤ wr.heap.size)) (fun q _ _ => 2 * K - (intOf q).toNat)
        case atStart => exact ⟨0, bs, Nat.zero_le _, rfl, rfl, HFx0, HSx, HOx, HBx, HZx⟩
        case round =>
          obtain ⟨k, bs, hk, rfl, rfl, HFk, HSk, HOk, HBk2, HZk⟩ := hrel
          have hzk := HZk.out
          have hsgP : sg al be x k < P := by
            by_cases h : k = 0
            · subst h; exact hxP
            · exact (HDi.out.sg_in hxP (hEx.out (by omega)) k).1
          obtain ⟨hcs, hfs⟩ := HSk.out.at_ hsgP
          rw [HFk.out.2 _ hsgP] at hcs
          by_cases hkK : k < K
          · rw [HFr.out k hkK] at hcs
            have hex := hEx.out (by omega)
            have hsg := HDi.out.sg_in hxP hex k
            have hsa := HDi.out.a _ hsg.1 hsg.2
            obtain ⟨y, hy⟩ : ∃ y, y = sg al be x k := ⟨_, rfl⟩
            obtain ⟨z, hz⟩ : ∃ z, z = al y := ⟨_, rfl⟩
            have HS := Lib.hid (show be z = sg al be x (k + 1) by rw [hz, hy]; rfl)
            have HT := Lib.hid (show dnK al be P D x (k + 1) = dnK al be P D x k ++ [(y : Int)] ++ [(z : Int)] by rw [dnK_succ, hz, hy]; simp)
            rw [← hy] at hsg hsa hcs hfs hsgP ⊢
            rw [← hz] at hsa
            have hzP := hsa.1
            have hfz := (HSk.out.at_ hzP).2
            have hcz := (HSk.out.at_ hzP).1
            obtain ⟨fz, hfzz⟩ : ∃ fz, fz = flag bs z := ⟨_, rfl⟩
            rw [← hfzz] at hcz
            have e1 := (HBk2.out.cell (p := ⟨G, x0, none⟩) hG).trans HcA.out
            have e2 := (HBk2.out.cell (p := ⟨gA, y, none⟩) hgA).trans (HrA.out y hsgP)
            rw [← hz] at e2
            have hy0' : (0 : Int) ≤ (y : Int) := by omega
            have hy2' : (y : Int) < (P : Int) := by omega
            have hz0' : (0 : Int) ≤ (z : Int) := by omega
            have hz2' : (z : Int) < (P : Int) := by omega
            have HF2 := Lib.hid (show FlagsOf P ((bs.set y true).set z true) (dnK al be P D x (k + 1)) from by rw [HT.out]; exact (HFk.out.snoc hsgP).snoc hzP)
            have HS2 := Lib.hid ((HSk.out.stored y true).stored z true)
            have HO2 := Lib.hid ((HOk.out.setCell_other (p := ⟨w2.heap.size, y, none⟩) (fun g e => by have := (HOk.out.lt e).1; have := hwz3; show g ≠ w2.heap.size; omega) (.bool true)).setCell_other (p := ⟨w2.heap.size, z, none⟩) (fun g e => by have := (HOk.out.lt e).1; have := hwz3; show g ≠ w2.heap.size; omega) (.bool true))
            have HB2k := Lib.hid ((HBk2.out.setCell (p := ⟨w2.heap.size, y, none⟩) (Nat.le_refl _) (.bool true)).setCell (p := ⟨w2.heap.size, z, none⟩) (Nat.le_refl _) (.bool true))
            have hfz2 : (wr.setCell ⟨w2.heap.size, y, none⟩ (.bool true)).frozen? ⟨w2.heap.size, z, none⟩ = false := ((HSk.out.stored y true).at_ hzP).2
            obtain ⟨fz2, hcz2⟩ : ∃ fz2, (wr.setCell ⟨w2.heap.size, y, none⟩ (.bool true)).cell? ⟨w2.heap.size, z, none⟩ = some (.bool fz2) := ⟨_, ((HSk.out.stored y true).at_ hzP).1⟩
            have e3 := (HB2k.out.cell (p := ⟨G, x0, none⟩) hG).trans HcA.out
            have e4 := (HB2k.out.cell (p := ⟨G, y0, none⟩) hG).trans HcB.out
            have e5 := (HB2k.out.cell (p := ⟨gA, y, none⟩) hgA).trans (HrA.out y hsgP)
            have e6 := (HB2k.out.cell (p := ⟨gB, z, none⟩) hgB).trans (HrB.out z hzP)
            rw [← hz] at e5
            rw [HS.out] at e6
            clear hy hz hfzz hsg hsa
            obtain ⟨q, hq⟩ : ∃ q, q = 2 * k := ⟨_, rfl⟩
            rw [← hq]
            have hq2 : q ≤ 64 := by omega
            have HQ := Lib.hid hq
            clear hq
            go_wp2
            go_quiet (fail)
            go_wp2
            go_roundw
            case rel => exact ⟨k + 1, _, by omega, by have := HQ.out; go_num, rfl, HF2, Lib.hid (HS2.out.drewN _), Lib.hid (HO2.out.drewN _), Lib.hid (below_drewN HB2k.out _), Lib.hid (by show wc.heap.size ≤ ((wr.setCell _ _).setCell _ _).heap.size; simpa using hzk)⟩
            case measure => have := HQ.out; simp [intOf]; omega
          · obtain rfl : k = K := by omega
            rw [HBk.out] at hcs
            have HFn := Lib.hid (show FlagsOf P bs (dnTo al be P D (x + 1)) from by rw [hT1.out]; exact HFk.out)
            have hcPr := (HBk2.out.cell (p := ⟨w.heap.size, 0, none⟩) HX2.out.lt).trans hcP
            have hs0' : (0 : Int) ≤ ((sg al be x k : Nat) : Int) := by omega
            have hs2' : ((sg al be x k : Nat) : Int) < (P : Int) := by omega
            by_cases hk0 : k = 0
            · subst hk0
              have HLn := Lib.hid (show lnTo al be P D (x + 1) = lnTo al be P D x from by rw [hT2.out, if_pos rfl])
              go_wp2
              go_roundw
              case rel => exact ⟨x + 1, ol, c9, A9, bs, by omega, by go_num, rfl, by rw [HLn.out]; exact HOL, HFn, HSk, by rw [HLn.out]; exact HOk, HBk2, HZk⟩
              case measure => simp [intOf]; omega
            · obtain ⟨q, hq⟩ : ∃ q, q = 2 * k := ⟨_, rfl⟩
              have HLn := Lib.hid (show lnTo al be P D (x + 1) = lnTo al be P D x ++ [(q : Int)] from by rw [hT2.out, if_neg hk0, hq])
              rw [← hq]
              have hq0 : 0 < (q : Int) := by omega
              have hq2 : q ≤ 64 := by omega
              have hqd : decide (0 < (q : Int)) = true := by simp; omega
              clear hq
              go_wp2_with (at_builtin; refine wpI_append rfl _ _ rfl wc.heap.size _ _ _ (lnTo al be P D x) (q : Int) wr.heap.size rfl rfl HOL.out (HOk.out.alloc (.cells #[.int .i64 (q : Int)] 2)) (World.cell?_alloc_at _ _ _ _ rfl) (by omega) (by simp; omega) ?_; intro A3 c3 w3 ho3 hg3 ha3)
              have hB3 : Below wc.heap.size wr w3 := ((Below.refl wc.heap.size wr).alloc hzk (.cells #[.int .i64 (q : Int)] 2)).trans (below_blk (HOk.out.alloc (.cells #[.int .i64 (q : Int)] 2)) hg3 (Nat.le_refl _) (by simp; omega))
              have HB3 := Lib.hid (HBk2.out.trans (hB3.mono (by omega)))
              have HS3 := Lib.hid (HSk.out.of_block (hB3.block w2.heap.size (by omega)))
              have HO3 := Lib.hid (show OwnI w3 wc.heap.size A3 c3 (lnTo al be P D (x + 1)) from by rw [HLn.out]; exact ho3)
              have HL3 := Lib.hid (show (lnTo al be P D (x + 1)).length = ol + 1 from by rw [HLn.out, List.length_append, HOL.out]; rfl)
              have HZ3 := Lib.hid (show wc.heap.size ≤ w3.heap.size from by have := hB3.size; omega)
              clear ho3 hg3 ha3 hB3
              go_wp2
              go_roundw
              case rel => first | exact ⟨x + 1, ol + 1, c3, A3, bs, by omega, by go_num, rfl, HL3, HFn, HS3, HO3, HB3, HZ3⟩ | ((repeat apply Exists.intro); refine ⟨?_, rfl⟩; exact ⟨x + 1, ol + 1, c3, A3, bs, by omega, by go_num, rfl, HL3, HFn, HS3, HO3, HB3, HZ3⟩)
              case measure => simp [intOf]; omega
end Go.Proofs.Ytambaonoeppblaa
