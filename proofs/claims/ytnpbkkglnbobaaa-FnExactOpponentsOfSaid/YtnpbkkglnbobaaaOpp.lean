/-
  OpponentsOf of the program and of the reference. Conditions: those of each theorem.
-/
import Derived.Test.YtnpbkkglnbobaaaSchS
namespace Go.Proofs.Ytnpbkkglnbobaaa
open Go.RowKit
set_option linter.unusedVariables false
set_option linter.unusedSimpArgs false

/-- Where a pair of a schedule lies. -/
theorem pair_at {w wr : World} {b off c q : Nat} {S : Spine3} {x : List (List (List Int))} (hr : RdL w (some ⟨b, off, none⟩) c S x) (hB : Below w.heap.size w wr) {n : Int} {r i : Nat} (hok : pairOk n x r i) (hrx : r < x.length) (hi : i < (pln x r).length) :
    ∃ b1 o1 b2 o2, (S r).1 = some ⟨b1, o1, none⟩ ∧ ((S r).2.2 i).1 = some ⟨b2, o2, none⟩ ∧ wr.cell? ⟨b, off + r, none⟩ = some (.slice (some ⟨b1, o1, none⟩) (pln x r).length (S r).2.1) ∧
      wr.cell? ⟨b1, o1 + i, none⟩ = some (.slice (some ⟨b2, o2, none⟩) 2 ((S r).2.2 i).2) ∧ wr.cell? ⟨b2, o2, none⟩ = some (.int .i64 (pA x r i : Nat)) ∧ wr.cell? ⟨b2, o2 + 1, none⟩ = some (.int .i64 (pB x r i : Nat)) ∧
      RdI wr (some ⟨b2, o2, none⟩) ((S r).2.2 i).2 (pr x r i) := by
  obtain ⟨b', off', e, hb, hc⟩ := hr.at_ r hrx
  injection e with e
  injection e with e e'
  subst e e'
  have hp := hr.rows r hrx
  obtain ⟨b1, o1, e1, hb1, hc1⟩ := hp.at_ i hi
  have hrow := hp.rows i hi
  have hl : (row (pln x r) i).length = 2 := hok.1
  have hab := pair_ab hok
  obtain ⟨b2, o2, e2, hb2, hd0⟩ := hrow.at_ 0 (by omega)
  obtain ⟨b3, o3, e3, hb3, hd1⟩ := hrow.at_ 1 (by omega)
  rw [e2] at e3
  injection e3 with e3
  injection e3 with e3 e4
  subst e3 e4
  rw [e1] at hc
  rw [hl, e2] at hc1
  rw [show nth (row (pln x r) i) 0 = (pA x r i : Int) from hab.2.2.1] at hd0
  rw [show nth (row (pln x r) i) 1 = (pB x r i : Int) from hab.2.2.2] at hd1
  refine ⟨b1, o1, b2, o2, e1, e2, (hB.cell (p := ⟨b, off + r, none⟩) hb).trans hc, (hB.cell (p := ⟨b1, o1 + i, none⟩) hb1).trans hc1, (hB.cell (p := ⟨b2, o2, none⟩) hb2).trans hd0, (hB.cell (p := ⟨b2, o2 + 1, none⟩) hb2).trans hd1, ?_⟩
  rw [← e2]
  exact hrow.keep hB.size fun _ hp => hB.cell hp

/-- The opponent of t behind i pairs of round r. -/
def opF (x : List (List (List Int))) (r : Nat) (t : Int) : Nat → Int
  | 0 => -1
  | i + 1 => if (pA x r i : Int) = t then (pB x r i : Int) else if (pB x r i : Int) = t then (pA x r i : Int) else opF x r t i
def oppL (x : List (List (List Int))) (t : Int) (k : Nat) : List Int := (List.range k).map fun r => opF x r t (pln x r).length
theorem oppL_len (x : List (List (List Int))) (t : Int) (k : Nat) : (oppL x t k).length = k := by simp [oppL]
theorem oppL_succ (x : List (List (List Int))) (t : Int) (k : Nat) : oppL x t (k + 1) = oppL x t k ++ [opF x k t (pln x k).length] := by simp [oppL, List.range_succ]
def opL (n : Int) (x : List (List (List Int))) (t : Int) : List Int := if schB n x = true ∧ inB t 0 (n - 1) = true then oppL x t x.length else []
def opC (n : Int) (x : List (List (List Int))) (t : Int) : Int := if schB n x = true then (if inB t 0 (n - 1) = true then 0 else 2) else 1
theorem sch_n {n : Int} {x : List (List (List Int))} (h : schB n x = true) : (2 ≤ n ∧ n ≤ 32) ∧ ∀ r, r < x.length → ∀ i, i < (pln x r).length → pairOk n x r i := by
  have := of_decide_eq_true h
  exact ⟨this.1, this.2.1⟩
/-- Each round of a schedule has few pairs, and there are few rounds that hold any. -/
theorem opF_bd {n : Int} {x : List (List (List Int))} {r : Nat} (h : ∀ i, i < (pln x r).length → pairOk n x r i) (hn : n ≤ 32) (t : Int) {k : Nat} (hk : k ≤ (pln x r).length) : -1 ≤ opF x r t k ∧ opF x r t k ≤ 31 := by
  induction k with
  | zero => simp [opF]
  | succ k ih =>
    have h1 := ih (by omega)
    have h2 := pair_ab (h k (by omega))
    rw [opF]
    split
    · omega
    · split <;> omega

set_option maxRecDepth 100000 in
set_option maxHeartbeats 4000000 in
theorem implOpponentsOf_c (w : World) (n : Int) (hn64 : -9223372036854775808 ≤ n ∧ n ≤ 9223372036854775807) (A : Option Addr) (q c : Nat) (S : Spine3) (x : List (List (List Int))) (hr : RdL w A c S x) (hq : x.length = q) (hw : WfT x) (hz : (q : Int) + (wgt x : Nat) ≤ 1048576) (t : Int) (ht64 : -9223372036854775808 ≤ t ∧ t ≤ 9223372036854775807) :
    Calls Try.prog 40 #[.int .i64 n, .slice A q c, .int .i64 t] w (PostSC w (opL n x t) (opC n x t)) := by
  have hO := implValidSchedule_c w n hn64 A q c S x hr hq hw hz
  clear hw
  rcases hs : schB n x with _ | _
  · rw [hs] at hO
    rw [show opL n x t = [] by simp [opL, hs], show opC n x t = 1 by simp [opC, hs]]
    have HO := Lib.hid hO
    clear hO hs hr hq hz
    go_enter Try.func40, Try.ntmps40
    go_wp2_with fail
    refine (HO.out).mono ?_
    rintro e w1 ⟨rfl, hb1⟩
    go_wp2
    go_ret2
    exact ⟨⟨none, 0, 0, rfl, rfl, OwnI.nil_ _ _⟩, hb1⟩
  rw [hs] at hO
  have HO := Lib.hid hO
  obtain ⟨hn2, hpk⟩ := sch_n hs
  have hin := fun W => within_c t 0 (n - 1) W
  rcases hi : inB t 0 (n - 1) with _ | _
  · rw [hi] at hin
    rw [show opL n x t = [] by simp [opL, hi], show opC n x t = 2 by simp [opC, hs, hi]]
    have HI := Lib.hid hin
    clear hO hs hr hq hz hin hi hpk
    go_enter Try.func40, Try.ntmps40
    go_wp2_with fail
    refine (HO.out).mono ?_
    rintro e w1 ⟨rfl, hb1⟩
    go_wp2_with fail
    refine (HI.out _).mono ?_
    rintro e w' ⟨rfl, rfl⟩
    go_wp2
    go_ret2
    exact ⟨⟨none, 0, 0, rfl, rfl, OwnI.nil_ _ _⟩, hb1⟩
  rw [hi] at hin
  rw [show opL n x t = oppL x t q by simp [opL, hs, hi, hq], show opC n x t = 0 by simp [opC, hs, hi]]
  have HI := Lib.hid hin
  have hti := inB_true.1 hi
  have HPk := Lib.hid hpk
  have HR := Lib.hid hr
  have HQ := Lib.hid hq
  have hq20 : q ≤ 1048576 := by omega
  have HZ := Lib.hid hz
  clear hO hs hr hq hz hin hi hpk
  go_enter Try.func40, Try.ntmps40
  go_wp2_with fail
  refine (HO.out).mono ?_
  rintro e w1 ⟨rfl, hb1⟩
  have HB1 := Lib.hid hb1
  clear hb1
  go_wp2_with fail
  refine (HI.out _).mono ?_
  rintro e w' ⟨rfl, rfl⟩
  go_wp2
  go_loopw [8, 25] (fun o i wr => ∃ (r : Nat) (A' : Option Addr) (c' : Nat), r ≤ q ∧ i = .int .i64 r ∧ o = .slice A' r c' ∧ Hid (OwnI wr w.heap.size A' c' (oppL x t r)) ∧ Hid (Below w.heap.size w wr)) (fun _ i _ => q - (intOf i).toNat)
  case atStart => exact ⟨0, none, 0, Nat.zero_le _, rfl, rfl, OwnI.nil_ _ _, HB1⟩
  case round =>
    obtain ⟨r, A', c', hrq, rfl, rfl, HOr, HBr⟩ := hrel
    by_cases hlr : r < q
    · have hrx : r < x.length := by rw [HQ.out]; exact hlr
      obtain ⟨b, off, e, hb, hc⟩ := HR.out.at_ r hrx
      subst e
      have hcc := (HBr.out.cell (p := ⟨b, off + r, none⟩) hb).trans hc
      obtain ⟨k, hk⟩ : ∃ k, k = (pln x r).length := ⟨_, rfl⟩
      rw [← hk] at hcc
      have HK := Lib.hid hk
      have hk20 : k ≤ 1048576 := by have := pln_le_wgt hrx; have := HZ.out; omega
      have HBd := Lib.hid (fun (j : Nat) (hj : j ≤ k) => opF_bd (n := n) (r := r) (HPk.out r hrx) hn2.2 t (k := j) (by rw [← HK.out]; exact hj))
      obtain ⟨wo, hwo⟩ : ∃ wo : World, wo = wr := ⟨_, rfl⟩
      subst hwo
      clear hc hk
      go_wp2
      clear hcc
      go_loopw [11, 31] (fun v i wr => ∃ (i0 : Nat) (u : Int), i0 ≤ k ∧ i = .int .i64 i0 ∧ v = .int .i64 u ∧ Hid (u = opF x r t i0) ∧ Qt wo wr) (fun _ i _ => k - (intOf i).toNat)
      case atStart => exact ⟨0, -1, Nat.zero_le _, rfl, rfl, Lib.hid rfl, Qt.refl _⟩
      case round =>
        obtain ⟨i, u, hi, rfl, rfl, HU, ⟨m, rfl⟩⟩ := hrel
        by_cases hlk : i < k
        · have hpo := HPk.out r hrx i (by rw [← HK.out]; exact hlk)
          obtain ⟨b1, o1, b2, o2, e1, e2, h0, h1, h2, h3, h4⟩ := pair_at (q := q) HR.out HBr.out hpo hrx (by rw [← HK.out]; exact hlk)
          obtain ⟨hab1, hab2, hab3, hab4⟩ := pair_ab hpo
          have HCt := Lib.hid (contains_c (wo.drewN m) (some ⟨b2, o2, none⟩) 2 ((S r).2.2 i).2 (pr x r i) t (h4.drewN m) hpo.1)
          have HOp := Lib.hid (show opF x r t (i + 1) = if (pA x r i : Int) = t then (pB x r i : Int) else if (pB x r i : Int) = t then (pA x r i : Int) else opF x r t i from rfl)
          have hmem : hasB (pr x r i) t = true ↔ ((pA x r i : Int) = t ∨ (pB x r i : Int) = t) := by
            rw [hasB_true, mem_nth, hpo.1]
            constructor
            · rintro ⟨j, hj, e⟩
              rcases (show j = 0 ∨ j = 1 by omega) with rfl | rfl
              · left; rw [← e, hab3]
              · right; rw [← e, hab4]
            · rintro (e | e)
              · exact ⟨0, by omega, by rw [hab3, e]⟩
              · exact ⟨1, by omega, by rw [hab4, e]⟩
          obtain ⟨a, ha⟩ : ∃ a, a = pA x r i := ⟨_, rfl⟩
          obtain ⟨bb, hbb⟩ : ∃ bb, bb = pB x r i := ⟨_, rfl⟩
          rw [← ha] at h2 hab1 HOp hmem
          rw [← hbb] at h3 hab1 hab2 HOp hmem
          rw [e1]
          have hax : (a : Int) ≤ 31 := by omega
          have hbx : (bb : Int) ≤ 31 := by omega
          have hbd2 := HBd.out (i + 1) (by omega)
          clear ha hbb hab3 hab4 h4 hpo e1 e2 h0
          rcases hh : hasB (pr x r i) t with _ | _
          · rw [hh] at HCt
            have HU2 := Lib.hid (show u = opF x r t (i + 1) by
              rw [HOp.out, if_neg (fun e => by have := hmem.2 (.inl e); rw [hh] at this; cases this), if_neg (fun e => by have := hmem.2 (.inr e); rw [hh] at this; cases this)]
              exact HU.out)
            clear hh hmem hbd2
            go_wp2_with fail
            refine (HCt.out).mono ?_
            rintro e w' ⟨rfl, rfl⟩
            go_wp2
            go_roundw
            case rel => exact ⟨i + 1, u, by omega, by go_num, rfl, HU2, ⟨_, rfl⟩⟩
            case measure => simp [intOf]; omega
          · rw [hh] at HCt
            have HU2 := Lib.hid (show (a : Int) + (bb : Int) - t = opF x r t (i + 1) by
              rw [HOp.out]
              by_cases ea : (a : Int) = t
              · rw [if_pos ea]; omega
              · rw [if_neg ea, if_pos (by rcases hmem.1 hh with e | e; exact absurd e ea; exact e)]
                rcases hmem.1 hh with e | e
                · exact absurd e ea
                · omega)
            clear hh hmem hbd2
            go_wp2_with fail
            refine (HCt.out).mono ?_
            rintro e w' ⟨rfl, rfl⟩
            have hw1 : IntKind.i64.wrap ((a : Int) + (bb : Int)) = (a : Int) + (bb : Int) := IntWalk.i64_in _ (by omega)
            have hw2 : IntKind.i64.wrap ((a : Int) + (bb : Int) - t) = (a : Int) + (bb : Int) - t := IntWalk.i64_in _ (by omega)
            go_wp2
            go_quiet (fail)
            clear hw1 hw2
            go_wp2
            go_roundw
            case rel => exact ⟨i + 1, _, by omega, by go_num, rfl, HU2, by first | exact qt2 _ _ _ | exact ⟨_, by rw [World.drewN_drewN]⟩ | exact ⟨_, rfl⟩⟩
            case measure => simp [intOf]; omega
        · obtain rfl : i = k := by omega
          have hz1 := HBr.out.size
          have HOq := Lib.hid ((HOr.out.drewN m).alloc (.cells #[.int .i64 u] 2))
          have HBq := Lib.hid ((below_drewN HBr.out m).alloc (by show w.heap.size ≤ (wo.drewN m).heap.size; exact hz1) (.cells #[.int .i64 u] 2))
          have HS := Lib.hid (show oppL x t (r + 1) = oppL x t r ++ [u] by rw [oppL_succ, ← HK.out, ← HU.out])
          go_wp2_with (at_builtin
                       refine wpI_append rfl _ _ rfl w.heap.size _ _ _ (oppL x t r) u (wo.drewN m).heap.size rfl rfl (oppL_len x t r) HOq.out (World.cell?_alloc_at _ _ _ _ rfl) (by omega) (by simp; exact Nat.le_succ_of_le hz1) ?_
                       intro A2 c2 w2 ho2 hg2 ha2)
          have HB2 := Lib.hid (HBq.out.trans (below_blk HOq.out hg2 (Nat.le_refl _) (by simp; exact Nat.le_succ_of_le hz1)))
          have HO2 := Lib.hid ho2
          clear ho2 hg2 ha2
          go_wp2
          go_roundw
          case rel => exact ⟨r + 1, A2, c2, by omega, by go_num, rfl, by rw [HS.out]; exact HO2, HB2⟩
          case measure => simp [intOf]; omega
    · obtain rfl : r = q := by omega
      have HL := Lib.hid (oppL_len x t r)
      go_wp2
      go_ret2
      exact ⟨⟨A', r, c', rfl, HL.out, HOr.out⟩, HBr.out⟩
set_option maxRecDepth 100000 in
set_option maxHeartbeats 4000000 in
theorem specOpponentsOf_c (w : World) (n : Int) (hn64 : -9223372036854775808 ≤ n ∧ n ≤ 9223372036854775807) (A : Option Addr) (q c : Nat) (S : Spine3) (x : List (List (List Int))) (hr : RdL w A c S x) (hq : x.length = q) (hw : WfT x) (hz : (q : Int) + (wgt x : Nat) ≤ 1048576) (t : Int) (ht64 : -9223372036854775808 ≤ t ∧ t ≤ 9223372036854775807) :
    Calls Try.prog 39 #[.int .i64 n, .slice A q c, .int .i64 t] w (PostSC w (opL n x t) (opC n x t)) := by
  have hO := l14Ok_c w n hn64 A q c S x hr hq hz
  clear hw
  rcases hs : schB n x with _ | _
  · rw [hs] at hO
    rw [show opL n x t = [] by simp [opL, hs], show opC n x t = 1 by simp [opC, hs]]
    have HO := Lib.hid hO
    clear hO hs hr hq hz
    go_enter Try.func39, Try.ntmps39
    go_wp2_with fail
    refine (HO.out).mono ?_
    rintro e w1 ⟨rfl, hb1⟩
    go_wp2
    go_ret2
    exact ⟨⟨none, 0, 0, rfl, rfl, OwnI.nil_ _ _⟩, hb1⟩
  rw [hs] at hO
  have HO := Lib.hid hO
  obtain ⟨hn2, hpk⟩ := sch_n hs
  have hin := fun W => in_c t 0 (n - 1) W
  rcases hi : inB t 0 (n - 1) with _ | _
  · rw [hi] at hin
    rw [show opL n x t = [] by simp [opL, hi], show opC n x t = 2 by simp [opC, hs, hi]]
    have HI := Lib.hid hin
    clear hO hs hr hq hz hin hi hpk
    go_enter Try.func39, Try.ntmps39
    go_wp2_with fail
    refine (HO.out).mono ?_
    rintro e w1 ⟨rfl, hb1⟩
    go_wp2_with fail
    refine (HI.out _).mono ?_
    rintro e w' ⟨rfl, rfl⟩
    go_wp2
    go_ret2
    exact ⟨⟨none, 0, 0, rfl, rfl, OwnI.nil_ _ _⟩, hb1⟩
  rw [hi] at hin
  rw [show opL n x t = oppL x t q by simp [opL, hs, hi, hq], show opC n x t = 0 by simp [opC, hs, hi]]
  have HI := Lib.hid hin
  have hti := inB_true.1 hi
  have HPk := Lib.hid hpk
  have HR := Lib.hid hr
  have HQ := Lib.hid hq
  have hq20 : q ≤ 1048576 := by omega
  have HZ := Lib.hid hz
  clear hO hs hr hq hz hin hi hpk
  go_enter Try.func39, Try.ntmps39
  go_wp2_with fail
  refine (HO.out).mono ?_
  rintro e w1 ⟨rfl, hb1⟩
  have HB1 := Lib.hid hb1
  clear hb1
  go_wp2_with fail
  refine (HI.out _).mono ?_
  rintro e w' ⟨rfl, rfl⟩
  have HW0 := Lib.hid (OwnI.lit0 w1 (lo := w.heap.size) HB1.out.size)
  have HB2 := Lib.hid (HB1.out.alloc HB1.out.size (.cells #[] 2))
  go_wp2
  go_loopw [8, 9] (fun o i wr => ∃ (r : Nat) (A' : Option Addr) (c' : Nat), r ≤ q ∧ i = .int .i64 r ∧ o = .slice A' r c' ∧ Hid (OwnI wr w.heap.size A' c' (oppL x t r)) ∧ Hid (Below w.heap.size w wr)) (fun _ i _ => q - (intOf i).toNat)
  case atStart => exact ⟨0, _, _, Nat.zero_le _, rfl, rfl, HW0, HB2⟩
  case round =>
    obtain ⟨r, A', c', hrq, rfl, rfl, HOr, HBr⟩ := hrel
    by_cases hlr : r < q
    · have hrx : r < x.length := by rw [HQ.out]; exact hlr
      obtain ⟨b, off, e, hb, hc⟩ := HR.out.at_ r hrx
      subst e
      have hcc := (HBr.out.cell (p := ⟨b, off + r, none⟩) hb).trans hc
      obtain ⟨k, hk⟩ : ∃ k, k = (pln x r).length := ⟨_, rfl⟩
      rw [← hk] at hcc
      have HCc := Lib.hid hcc
      have HK := Lib.hid hk
      have hk20 : k ≤ 1048576 := by have := pln_le_wgt hrx; have := HZ.out; omega
      have hr0 : (0 : Int) ≤ (r : Int) := by omega
      have hr1 : (r : Int) < (q : Int) := by omega
      obtain ⟨wo, hwo⟩ : ∃ wo : World, wo = wr := ⟨_, rfl⟩
      subst hwo
      clear hc hk
      go_wp2
      clear hcc
      go_loopw [10, 11] (fun v i wr => ∃ (i0 : Nat) (u : Int), i0 ≤ k ∧ i = .int .i64 i0 ∧ v = .int .i64 u ∧ Hid (u = opF x r t i0) ∧ wr = wo) (fun _ i _ => k - (intOf i).toNat)
      case atStart => exact ⟨0, -1, Nat.zero_le _, rfl, rfl, Lib.hid rfl, rfl⟩
      case round =>
        obtain ⟨i, u, hi, rfl, rfl, HU, rfl⟩ := hrel
        have hcc := HCc.out
        by_cases hlk : i < k
        · have hpo := HPk.out r hrx i (by rw [← HK.out]; exact hlk)
          obtain ⟨b1, o1, b2, o2, e1, e2, h0, h1, h2, h3, h4⟩ := pair_at (q := q) HR.out HBr.out hpo hrx (by rw [← HK.out]; exact hlk)
          obtain ⟨hab1, hab2, hab3, hab4⟩ := pair_ab hpo
          have HOp := Lib.hid (show opF x r t (i + 1) = if (pA x r i : Int) = t then (pB x r i : Int) else if (pB x r i : Int) = t then (pA x r i : Int) else opF x r t i from rfl)
          obtain ⟨a, ha⟩ : ∃ a, a = pA x r i := ⟨_, rfl⟩
          obtain ⟨bb, hbb⟩ : ∃ bb, bb = pB x r i := ⟨_, rfl⟩
          rw [← ha] at h2 hab1 HOp
          rw [← hbb] at h3 hab1 hab2 HOp
          rw [e1] at hcc
          have hi0 : (0 : Int) ≤ (i : Int) := by omega
          have hi1 : (i : Int) < (k : Int) := by omega
          clear ha hbb hab3 hab4 h4 hpo e1 e2 h0
          by_cases ea : (a : Int) = t
          · have hd1 : ((a : Int) == t) = true := by simp [ea]
            have hd2 : ((bb : Int) == t) = false := by simp; omega
            have HU2 := Lib.hid (show (bb : Int) = opF x r t (i + 1) by rw [HOp.out, if_pos ea])
            clear ea
            go_wp2
            go_roundw
            case rel => exact ⟨i + 1, _, by omega, by go_num, rfl, HU2, by first | rfl | trivial⟩
            case measure => simp [intOf]; omega
          · have hd1 : ((a : Int) == t) = false := by simp [ea]
            by_cases eb : (bb : Int) = t
            · have hd2 : ((bb : Int) == t) = true := by simp [eb]
              have HU2 := Lib.hid (show (a : Int) = opF x r t (i + 1) by rw [HOp.out, if_neg ea, if_pos eb])
              clear ea eb
              go_wp2
              go_roundw
              case rel => exact ⟨i + 1, _, by omega, by go_num, rfl, HU2, by first | rfl | trivial⟩
              case measure => simp [intOf]; omega
            · have hd2 : ((bb : Int) == t) = false := by simp [eb]
              have HU2 := Lib.hid (show u = opF x r t (i + 1) by rw [HOp.out, if_neg ea, if_neg eb]; exact HU.out)
              clear ea eb
              go_wp2
              go_roundw
              case rel => exact ⟨i + 1, _, by omega, by go_num, rfl, HU2, by first | rfl | trivial⟩
              case measure => simp [intOf]; omega
        · obtain rfl : i = k := by omega
          have hz1 := HBr.out.size
          have HOq := Lib.hid (HOr.out.alloc (.cells #[.int .i64 u] 2))
          have HBq := Lib.hid (HBr.out.alloc hz1 (.cells #[.int .i64 u] 2))
          have HS := Lib.hid (show oppL x t (r + 1) = oppL x t r ++ [u] by rw [oppL_succ, ← HK.out, ← HU.out])
          go_wp2_with (at_builtin
                       refine wpI_append rfl _ _ rfl w.heap.size _ _ _ (oppL x t r) u wr.heap.size rfl rfl (oppL_len x t r) HOq.out (World.cell?_alloc_at _ _ _ _ rfl) (by omega) (by simp; exact Nat.le_succ_of_le hz1) ?_
                       intro A2 c2 w2 ho2 hg2 ha2)
          have HB2 := Lib.hid (HBq.out.trans (below_blk HOq.out hg2 (Nat.le_refl _) (by simp; exact Nat.le_succ_of_le hz1)))
          have HO2 := Lib.hid ho2
          clear ho2 hg2 ha2
          go_wp2
          go_roundw
          case rel => exact ⟨r + 1, A2, c2, by omega, by go_num, rfl, by rw [HS.out]; exact HO2, HB2⟩
          case measure => simp [intOf]; omega
    · obtain rfl : r = q := by omega
      have HL := Lib.hid (oppL_len x t r)
      go_wp2
      go_ret2
      exact ⟨⟨A', r, c', rfl, HL.out, HOr.out⟩, HBr.out⟩

theorem OpponentsOf_small (n : Int) (x : List (List (List Int))) (t : Int) (h : x.length ≤ 1048576) : (opL n x t).length ≤ 1048576 := by
  unfold opL
  split
  · rw [oppL_len]; exact h
  · simp
end Go.Proofs.Ytnpbkkglnbobaaa
