/-
  CountBreaks of the program. Conditions: those of each theorem.
-/
import Derived.Test.YtdcegepkgcflpaaBrk3
import Derived.Deep.RegionHeld3
namespace Go.Proofs.Ytdcegepkgcflpaa
open Go.RowKit
set_option linter.unusedVariables false
set_option linter.unusedSimpArgs false

theorem keep4 {lo : Nat} {w w' : World} {q1 q2 q3 q4 : Addr} {v1 v2 v3 v4 : Option Value} (hb : Below lo w w') (h1 : q1.block < lo) (h2 : q2.block < lo) (h3 : q3.block < lo) (h4 : q4.block < lo) (h : w.cell? q1 = v1 ∧ w.cell? q2 = v2 ∧ w.cell? q3 = v3 ∧ w.cell? q4 = v4) :
    w'.cell? q1 = v1 ∧ w'.cell? q2 = v2 ∧ w'.cell? q3 = v3 ∧ w'.cell? q4 = v4 := ⟨(hb.cell h1).trans h.1, (hb.cell h2).trans h.2.1, (hb.cell h3).trans h.2.2.1, (hb.cell h4).trans h.2.2.2⟩

set_option maxRecDepth 100000 in
set_option maxHeartbeats 16000000 in
theorem implCountBreaks_c (w : World) (n : Int) (hn64 : -9223372036854775808 ≤ n ∧ n ≤ 9223372036854775807) (A : Option Addr) (q c : Nat) (S : Spine3) (x : List (List (List Int))) (hr : RdL w A c S x) (hq : x.length = q) (hw : WfT x) (hz : (q : Int) + (wgt x : Nat) ≤ 1048576)
    (B : Option Addr) (m d : Nat) (R : Spine) (ys : List (List Int)) (hy : RdM w B d R ys) (hm : ys.length = m) (hwy : WfM ys) (hzy : (m : Int) + (tot ys : Nat) ≤ 1048576) :
    Calls Try.prog 26 #[.int .i64 n, .slice A q c, .slice B m d] w (PostV w (.tuple #[.int .i64 (brV n x ys), .int .i64 (brC n x ys)])) := by
  have hO := implValidSchedule_c w n hn64 A q c S x hr hq hw hz
  have hq20 : q ≤ 1048576 := by omega
  have hm20 : m ≤ 1048576 := by omega
  have hxl : ∀ k, k < x.length → (pln x k).length ≤ 1048576 := fun k hk => by have := pln_le_wgt hk; omega
  have hyl : ∀ k, k < ys.length → (row ys k).length ≤ 1048576 := fun k hk => by have := row_le_tot hk; omega
  rcases hs : schB n x with _ | _
  · rw [(brC_one (ys := ys) hs).1, (brC_one (ys := ys) hs).2]
    rw [hs] at hO
    have HO := Lib.hid hO
    clear hO hs hr hq hw hz hy hm hwy hzy hxl hyl
    go_enter Try.func26, Try.ntmps26
    go_wp2_with fail
    refine (HO.out).mono ?_
    rintro e w2 ⟨rfl, hb2⟩
    go_wp2
    go_ret2
    exact ⟨rfl, hb2⟩
  rw [hs] at hO
  have HO := Lib.hid hO
  have hsO : schOk n x := of_decide_eq_true hs
  obtain ⟨N, rfl⟩ : ∃ N : Nat, n = (N : Int) := ⟨n.toNat, by have := hsO.1.1; omega⟩
  have hN : N ≤ 32 := by have := hsO.1.2; omega
  have HTwo := Lib.hid (show hmB x ys = false → brC (N : Int) x ys = 2 ∧ brV (N : Int) x ys = 0 from brC_two hs)
  have HZero := Lib.hid (show hmB x ys = true → brC (N : Int) x ys = 0 ∧ brV (N : Int) x ys = (brN x ys N : Int) from brC_zero hs)
  have HSch := Lib.hid hsO
  have HX := Lib.hid hr
  have HY := Lib.hid hy
  have HN := Lib.hid hq
  have HM := Lib.hid hm
  have HXl := Lib.hid hxl
  have HYl := Lib.hid hyl
  clear hO hs hr hq hw hz hy hm hwy hzy hsO hn64 hxl hyl
  obtain ⟨V, hV⟩ : ∃ V, V = brV (N : Int) x ys := ⟨_, rfl⟩
  obtain ⟨C, hC⟩ : ∃ C, C = brC (N : Int) x ys := ⟨_, rfl⟩
  rw [← hV, ← hC] at HTwo HZero ⊢
  clear hV hC
  by_cases hl : m = q
  rotate_left
  · have hd : ((m : Int) != (q : Int)) = true := by simp; omega
    have hd2 : ((m : Int) == (q : Int)) = false := by simp; omega
    obtain ⟨e1, e2⟩ := HTwo.out (decide_eq_false (fun h => hl (by rw [← HN.out, ← HM.out]; exact h.1)))
    subst e1 e2
    clear hl
    go_enter Try.func26, Try.ntmps26
    go_wp2_with fail
    refine (HO.out).mono ?_
    rintro e w2 ⟨rfl, hb2⟩
    go_wp2
    go_ret2
    exact ⟨rfl, hb2⟩
  subst hl
  have hmm : ((m : Int) != (m : Int)) = false := by simp
  go_enter Try.func26, Try.ntmps26
  go_wp2_with fail
  refine (HO.out).mono ?_
  rintro e w2 ⟨rfl, hb2⟩
  have HB2 := Lib.hid hb2
  have HX2 := Lib.hid (HX.out.below hb2)
  have HY2 := Lib.hid (HY.out.below hb2)
  clear hb2 HX HY
  go_wp2
  go_loopw [28] (fun v wr => ∃ k : Nat, k ≤ m ∧ v = .int .i64 k ∧ Hid (hmOk x ys k) ∧ Hid (wr = w2)) (fun v _ => m - (intOf v).toNat)
  case atStart => exact ⟨0, Nat.zero_le _, rfl, Lib.hid (fun j hj => absurd hj (by omega)), Lib.hid rfl⟩
  case round =>
    obtain ⟨k, hk, rfl, HE, HW⟩ := hrel
    obtain rfl : wr = w2 := HW.out
    by_cases hlt : k < m
    · have hkx : k < x.length := by rw [HN.out]; exact hlt
      have hky : k < ys.length := by rw [HM.out]; exact hlt
      obtain ⟨b, off, e, hb, hc⟩ := HX2.out.at_ k hkx
      obtain ⟨b2, off2, e2, hb2, hc2⟩ := HY2.out.at_ k hky
      subst e e2
      have hk1 : (0 : Int) ≤ (k : Int) := by omega
      have hk2 : (k : Int) < (m : Int) := by omega
      have HPx := Lib.hid (HX2.out.rows k hkx)
      have HPy := Lib.hid (HY2.out.rows k hky)
      have hxlk := HXl.out k hkx
      have hylk := HYl.out k hky
      obtain ⟨lx, hlx⟩ : ∃ lx, lx = (pln x k).length := ⟨_, rfl⟩
      obtain ⟨ly, hly⟩ : ∃ ly, ly = (row ys k).length := ⟨_, rfl⟩
      rw [← hlx] at hc hxlk
      rw [← hly] at hc2 hylk
      have HLx := Lib.hid hlx
      have HLy := Lib.hid hly
      clear hb hb2 hlx hly
      by_cases hll : ly = lx
      rotate_left
      · have hd : ((ly : Int) != (lx : Int)) = true := by simp; omega
        have hd2 : ((ly : Int) == (lx : Int)) = false := by simp; omega
        obtain ⟨e1, e2⟩ := HTwo.out (decide_eq_false (fun h => hll (by rw [HLx.out, HLy.out]; exact (h.2 k hkx).1)))
        subst e1 e2
        clear hll
        go_wp2
        go_ret2
        exact ⟨rfl, HB2.out⟩
      subst hll
      have hd : ((ly : Int) != (ly : Int)) = false := by simp
      go_wp2
      go_loopw [43] (fun v wz => ∃ i : Nat, i ≤ ly ∧ v = .int .i64 i ∧ Hid (∀ j, j < i → hasB (row (pln x k) j) (nth (row ys k) j) = true) ∧ Hid (wz = wr)) (fun v _ => ly - (intOf v).toNat)
      case atStart => exact ⟨0, Nat.zero_le _, rfl, Lib.hid (fun j hj => absurd hj (by omega)), Lib.hid rfl⟩
      case round =>
        obtain ⟨i, hi, rfl, HI, HW2⟩ := hrel
        obtain rfl := HW2.out
        by_cases hilt : i < ly
        · have hix : i < (pln x k).length := by rw [← HLx.out]; exact hilt
          have hiy : i < (row ys k).length := by rw [← HLy.out]; exact hilt
          obtain ⟨b3, off3, e3, hb3, hc3⟩ := HPx.out.at_ i hix
          obtain ⟨b4, off4, e4, hb4, hc4⟩ := HPy.out.at_ i hiy
          rw [e4] at hc2
          rw [e3]
          have hi1 : (0 : Int) ≤ (i : Int) := by omega
          have hi2 : (i : Int) < (ly : Int) := by omega
          have HHas := Lib.hid (fun W (hW : W = wr) => contains_c W ((S k).2.2 i).1 (row (pln x k) i).length ((S k).2.2 i).2 (row (pln x k) i) (nth (row ys k) i) (by rw [hW]; exact HPx.out.rows i hix) rfl)
          clear hb3 hb4 e3 e4
          rcases hh : hasB (row (pln x k) i) (nth (row ys k) i) with _ | _
          · simp only [hh] at HHas
            obtain ⟨e1, e2⟩ := HTwo.out (decide_eq_false (fun h => by have := (h.2 k hkx).2 i hix; rw [hh] at this; cases this))
            subst e1 e2
            clear hh
            generalize nth (row ys k) i = yv at *
            go_wp2_with fail
            refine (HHas.out _ rfl).mono ?_
            rintro e w' ⟨rfl, rfl⟩
            go_wp2
            go_ret2
            exact ⟨rfl, HB2.out⟩
          · simp only [hh] at HHas
            have HI' := Lib.hid (show ∀ j, j < i + 1 → hasB (row (pln x k) j) (nth (row ys k) j) = true from fun j hj => by
              by_cases e : j = i
              · rw [e]; exact hh
              · exact HI.out j (by omega))
            clear hh
            generalize nth (row ys k) i = yv at *
            go_wp2_with fail
            refine (HHas.out _ rfl).mono ?_
            rintro e w' ⟨rfl, rfl⟩
            go_wp2
            go_roundw
            case rel => exact ⟨i + 1, by omega, by go_num, HI', Lib.hid trivial⟩
            case measure => simp [intOf]; omega
        · obtain rfl : i = ly := by omega
          have HE' := Lib.hid (show hmOk x ys (k + 1) from fun r hr => by
            by_cases e : r = k
            · subst e; exact ⟨by rw [← HLx.out, ← HLy.out], fun j hj => HI.out j (by rw [HLx.out]; exact hj)⟩
            · exact HE.out r (by omega))
          go_wp2
          go_roundw
          case rel => exact ⟨k + 1, by omega, by go_num, HE', Lib.hid trivial⟩
          case measure => simp [intOf]; omega
    · obtain rfl : k = m := by omega
      have hhm : hmOk x ys x.length := by rw [HN.out]; exact HE.out
      obtain ⟨e1, e2⟩ := HZero.out (decide_eq_true ⟨by rw [HN.out, HM.out], hhm⟩)
      subst e1 e2
      have HFit := Lib.hid (fun r (hr : r < x.length) => fits_of HSch.out hhm hr hr)
      have HPl := Lib.hid (fun (W : World) (hb : Below wr.heap.size wr W) (r : Nat) (hrx : r < x.length) => places_c W N hN (S r).1 (R r).1 (pln x r).length (row ys r).length (S r).2.1 (R r).2 (S r).2.2 (pln x r) (row ys r) ((HX2.out.below hb).rows r hrx) rfl ((HY2.out.below hb).rows r (by rw [HM.out, ← HN.out]; exact hrx)) rfl (HFit.out r hrx).len.symm (HXl.out r hrx) (fun i hi => by have := (HSch.out.2.1 r hrx i hi).1; unfold pr at this; omega) (fun i hi z hz => (pair_mem (HSch.out.2.1 r hrx i hi) hz).1) (fun i hi => (HFit.out r hrx).home i hi))
      have HVal := Lib.hid (fun r (hrx : r < x.length) (t : Nat) (ht : t < N) => (show nth (tbL (pcF (pln x r) (row ys r) (pln x r).length) N) t = plF (pln x r) (row ys r) (t : Int) from by rw [tbL_nth ht, places_plays (HFit.out r hrx)]))
      obtain ⟨wb, rfl⟩ : ∃ wb, wb = wr := ⟨_, rfl⟩
      clear hhm HE HW HTwo HZero
      go_wp2
      go_loopw [12, 13] (fun s v wr => ∃ r j a : Nat, (r ≤ k ∨ r = 1) ∧ 1 ≤ r ∧ v = .int .i64 r ∧ s = .int .i64 a ∧ Hid (r = j + 1) ∧ Hid (smN (fun r => smN (fun t => bkB x ys r t) N) j = a) ∧ Hid (Below wb.heap.size wb wr)) (fun _ v _ => k - (intOf v).toNat)
      case atStart => exact ⟨1, 0, 0, .inr rfl, Nat.le_refl _, rfl, rfl, Lib.hid rfl, Lib.hid rfl, Lib.hid (Below.refl _ _)⟩
      case round =>
        obtain ⟨r, j, a, hr, hr1, rfl, rfl, HJ, HA, HB3⟩ := hrel
        have hsz3 := HB3.out.size
        have ha : a ≤ j * 32 := by
          have h1 := smN_le (g := fun r => smN (fun t => bkB x ys r t) N) (k := j) (c := 32) fun i => by
            have := smN_le (g := fun t => bkB x ys i t) (k := N) (c := 1) fun t => bkB_le x ys i t
            omega
          have := HA.out
          omega
        by_cases hrq : r < k
        · have hj := HJ.out
          have hrx : r < x.length := by rw [HN.out]; exact hrq
          have hjx : j < x.length := by omega
          obtain ⟨b1, o1, e1, hb1, hc1⟩ := HX2.out.at_ r hrx
          obtain ⟨b1', o1', e1', hb1', hc1'⟩ := HX2.out.at_ j hjx
          rw [e1] at e1'
          injection e1' with e1'
          injection e1' with e3 e4
          subst e3 e4
          obtain ⟨b2, o2, e2, hb2, hc2⟩ := HY2.out.at_ r (by rw [HM.out, ← HN.out]; exact hrx)
          obtain ⟨b2', o2', e2', hb2', hc2'⟩ := HY2.out.at_ j (by rw [HM.out, ← HN.out]; exact hjx)
          rw [e2] at e2'
          injection e2' with e2'
          injection e2' with e3 e4
          subst e3 e4
          have hd1 := (HB3.out.cell (p := ⟨b1, o1 + r, none⟩) hb1).trans hc1
          have hd2 := (HB3.out.cell (p := ⟨b1, o1 + j, none⟩) hb1).trans hc1'
          have hd3 := (HB3.out.cell (p := ⟨b2, o2 + r, none⟩) hb2).trans hc2
          have hd4 := (HB3.out.cell (p := ⟨b2, o2 + j, none⟩) hb2).trans hc2'
          have HBd := Lib.hid (show Below wb.heap.size wb wr.drew from HB3.out.drew)
          have HPj := Lib.hid (HPl.out wr.drew HBd.out j hjx)
          have HPr := Lib.hid (fun W hb => HPl.out W hb r hrx)
          have hq1 : b1 < wr.drew.heap.size := by show b1 < wr.heap.size; omega
          have hq2 : b2 < wr.drew.heap.size := by show b2 < wr.heap.size; omega
          have hr0 : (0 : Int) ≤ (r : Int) - 1 := by omega
          have hr2 : (r : Int) < (k : Int) := by omega
          have hr3 : (r : Int) - 1 < (k : Int) := by omega
          have hr4 : (0 : Int) ≤ (r : Int) := by omega
          have hrj : ((r : Int) - 1).toNat = j := by omega
          have hr5 : (1 : Int) ≤ (r : Int) := by omega
          have hr6 : (r : Int) ≤ (k : Int) := by omega
          have hr7 : (r : Int) < (k : Int) + 1 := by omega
          rw [e1, e2]
          have hw1 : IntKind.i64.wrap ((r : Int) - 1) = (r : Int) - 1 := IntWalk.i64_in _ (by omega)
          clear hc1 hc1' hc2 hc2' hb1' hb2' e1 e2 hj
          go_wp2
          go_region_held3 (fun w' => w'.cell? ⟨b1, o1 + r, none⟩ = some (.slice (S r).1 (pln x r).length (S r).2.1) ∧ w'.cell? ⟨b1, o1 + j, none⟩ = some (.slice (S j).1 (pln x j).length (S j).2.1) ∧ w'.cell? ⟨b2, o2 + r, none⟩ = some (.slice (R r).1 (row ys r).length (R r).2) ∧ w'.cell? ⟨b2, o2 + j, none⟩ = some (.slice (R j).1 (row ys j).length (R j).2)) (first | exact ⟨hd1, hd2, hd3, hd4⟩ | exact hS4 | exact hS6)
            (first | (go_at_call 59; (with_reducible refine (HPj.out).mono ?_); rintro e w4 ⟨⟨A4, n4, c4, rfl, hn4, ho4⟩, hb4⟩; have hS4 := keep4 hb4 hq1 hq1 hq2 hq2 ⟨hd1, hd2, hd3, hd4⟩; have hB4 := HBd.out.trans (hb4.mono HBd.out.size)) | (go_at_call 59; (with_reducible refine (HPr.out w4 hB4).mono ?_); rintro e w6 ⟨⟨A6, n6, c6, rfl, hn6, ho6⟩, hb6⟩; have hS6 := keep4 (hb4.trans (hb6.mono hb4.size)) hq1 hq1 hq2 hq2 ⟨hd1, hd2, hd3, hd4⟩))
          obtain rfl : N = n4 := by rw [← hn4, tbL_len]
          obtain rfl : N = n6 := by rw [← hn6, tbL_len]
          have HO4 := Lib.hid (ho4.below hb6)
          have HO6 := Lib.hid ho6
          have HB6 := Lib.hid (hB4.trans (hb6.mono hB4.size))
          have HVj := Lib.hid (HVal.out j hjx)
          have HVr := Lib.hid (HVal.out r hrx)
          generalize tbL (pcF (pln x j) (row ys j) (pln x j).length) N = lj at *
          generalize tbL (pcF (pln x r) (row ys r) (pln x r).length) N = lr at *
          have HNj := Lib.hid hn4
          have HNr := Lib.hid hn6
          clear hw1 hd1 hd2 hd3 hd4 hS4 hS6 hb4 hb6 hB4 ho4 ho6 hn4 hn6
          go_wp2
          go_loopw [12, 89] (fun s v wz => ∃ t b : Nat, t ≤ N ∧ v = .int .i64 t ∧ s = .int .i64 b ∧ Hid (a + smN (fun t => bkB x ys j t) t = b) ∧ Qt w6 wz) (fun _ v _ => N - (intOf v).toNat)
          case atStart => exact ⟨0, a, Nat.zero_le _, rfl, rfl, Lib.hid rfl, Qt.refl _⟩
          case round =>
            obtain ⟨t, b, ht, rfl, rfl, HS, hqt⟩ := hrel
            obtain ⟨m1, hm1⟩ := hqt
            have HQ1 := Lib.hid hm1
            have HOj := Lib.hid (show RdI wr A4 c4 lj from by rw [hm1]; exact HO4.out.rd.drewN m1)
            have HOr := Lib.hid (show RdI wr A6 c6 lr from by rw [hm1]; exact HO6.out.rd.drewN m1)
            clear hm1
            by_cases htn : t < N
            · obtain ⟨b3, o3, e3, hb3, hc3⟩ := HOj.out.at_ t (by rw [HNj.out]; exact htn)
              obtain ⟨b4, o4, e4, hb4, hc4⟩ := HOr.out.at_ t (by rw [HNr.out]; exact htn)
              rw [HVj.out t htn] at hc3
              rw [HVr.out t htn] at hc4
              subst e3 e4
              have hub := plF_vals (pln x j) (row ys j) (t : Int)
              have hvb := plF_vals (pln x r) (row ys r) (t : Int)
              have HBk := Lib.hid (show bkB x ys j t = if plF (pln x j) (row ys j) (t : Int) ≠ 0 ∧ plF (pln x j) (row ys j) (t : Int) = plF (pln x r) (row ys r) (t : Int) then 1 else 0 from by rw [HJ.out]; rfl)
              have hb : b ≤ j * 32 + 32 := by
                have := smN_le (g := fun t => bkB x ys j t) (k := t) (c := 1) fun i => bkB_le x ys j i
                have := HS.out
                omega
              have hj20 : j ≤ 1048576 := by have := HJ.out; omega
              generalize plF (pln x j) (row ys j) (t : Int) = u at *
              generalize plF (pln x r) (row ys r) (t : Int) = v at *
              have ht0 : (0 : Int) ≤ (t : Int) := by omega
              have ht2 : (t : Int) < (N : Int) := by omega
              clear hb3 hb4
              by_cases huv : u ≠ 0 ∧ u = v
              · have HS' := Lib.hid (show a + smN (fun t => bkB x ys j t) (t + 1) = b + 1 by rw [smN, HBk.out, if_pos huv]; have := HS.out; omega)
                have hp1 : u * v = 1 := by
                  rcases hub with h | h | h
                  · rw [← huv.2, h]; rfl
                  · exact absurd h huv.1
                  · rw [← huv.2, h]; rfl
                have hw2 : IntKind.i64.wrap (u * v) = u * v := IntWalk.i64_in _ (by omega)
                have hp2 : (u * v == 1) = true := by simp [hp1]
                clear hub hvb huv hp1
                go_wp2
                go_quiet (fail)
                clear hw2 hc3 hc4
                go_wp2
                go_roundw
                case rel => exact ⟨t + 1, b + 1, by omega, by go_num, by go_num, HS', m1 + nq, by rw [HQ1.out, World.drewN_drewN]⟩
                case measure => simp [intOf]; omega
              · have HS' := Lib.hid (show a + smN (fun t => bkB x ys j t) (t + 1) = b by rw [smN, HBk.out, if_neg huv]; exact HS.out)
                have hp1 : u * v ≠ 1 ∧ -1 ≤ u * v ∧ u * v ≤ 1 := by
                  rcases hub with h | h | h <;> rcases hvb with h' | h' | h' <;> subst h h' <;> first | decide | exact absurd ⟨by decide, rfl⟩ huv
                have hw2 : IntKind.i64.wrap (u * v) = u * v := IntWalk.i64_in _ (by omega)
                have hp2 : (u * v == 1) = false := by simp [hp1.1]
                clear hub hvb huv hp1
                go_wp2
                go_quiet (fail)
                clear hw2 hc3 hc4
                go_wp2
                go_roundw
                case rel => exact ⟨t + 1, b, by omega, by go_num, rfl, HS', m1 + nq, by rw [HQ1.out, World.drewN_drewN]⟩
                case measure => simp [intOf]; omega
            · have htN : t = N := by omega
              have HS2 := HS.out
              rw [htN] at HS2
              have HA' := Lib.hid (show smN (fun r => smN (fun z => bkB x ys r z) N) (j + 1) = b by rw [smN, HA.out]; exact HS2)
              clear HS2
              have HBz := Lib.hid (show Below wb.heap.size wb wr by rw [HQ1.out]; exact below_drewN HB6.out m1)
              go_wp2
              go_roundw
              case rel => exact ⟨r + 1, j + 1, b, .inl (by omega), by omega, by go_num, rfl, Lib.hid (by rw [HJ.out]), HA', HBz⟩
              case measure => simp [intOf]; omega
        · have hjk : j = k - 1 := by have := HJ.out; omega
          have HF := Lib.hid (show brN x ys N = a by unfold brN; rw [HN.out, ← hjk]; exact HA.out)
          have HBf := Lib.hid (HB2.out.trans (HB3.out.mono HB2.out.size))
          clear hjk
          go_wp2
          go_ret2
          exact ⟨by rw [HF.out]; rfl, HBf.out⟩
end Go.Proofs.Ytdcegepkgcflpaa
