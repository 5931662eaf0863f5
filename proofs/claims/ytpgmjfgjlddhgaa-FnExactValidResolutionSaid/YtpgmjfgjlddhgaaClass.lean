/-
  Parallel classes: isClass of the program, l14Class of the reference, IsParallelClass of both. Conditions: those of each theorem.
-/
import Derived.Test.YtpgmjfgjlddhgaaBools
namespace Go.Proofs.Ytpgmjfgjlddhgaa
open Go.RowKit
set_option linter.unusedVariables false
set_option linter.unusedSimpArgs false

/-- The points of the first k blocks of a class, one behind the other. -/
def preL (xss : List (List Int)) (cls : List Int) (k : Nat) : List Int := (cls.take k).flatMap fun (i : Int) => row xss i.toNat
theorem preL_zero (xss : List (List Int)) (cls : List Int) : preL xss cls 0 = [] := by simp [preL]
theorem preL_succ {xss : List (List Int)} {cls : List Int} {k : Nat} (h : k < cls.length) : preL xss cls (k + 1) = preL xss cls k ++ row xss (nth cls k).toNat := by
  unfold preL
  rw [take_nth h, List.flatMap_append]
  simp
theorem preL_le {xss : List (List Int)} {cls : List Int} {k m : Nat} (h : k ≤ m) (hm : m ≤ cls.length) : ∃ r, preL xss cls m = preL xss cls k ++ r := by
  induction m with
  | zero => obtain rfl : k = 0 := by omega
            exact ⟨[], by simp⟩
  | succ m ih =>
    by_cases e : k = m + 1
    · subst e; exact ⟨[], by simp⟩
    · obtain ⟨r, hr⟩ := ih (by omega) (by omega)
      refine ⟨r ++ row xss (nth cls m).toNat, ?_⟩
      rw [preL_succ (by omega), hr, List.append_assoc]

/-- The class is one: its indices rise, its blocks part, each point lies in one. -/
def ClassOk (P : Nat) (xss : List (List Int)) (cls : List Int) : Prop :=
  RiseTo 0 ((xss.length : Int) - 1) cls cls.length ∧ (preL xss cls cls.length).Nodup ∧ ∀ i, i < P → (i : Int) ∈ preL xss cls cls.length
instance (P : Nat) (xss : List (List Int)) (cls : List Int) : Decidable (ClassOk P xss cls) := by unfold ClassOk; infer_instance
def classB (P : Nat) (xss : List (List Int)) (cls : List Int) : Bool := decide (ClassOk P xss cls)

theorem rowOk {P : Nat} {xss : List (List Int)} (hD : DsgOk (P : Int) xss) {i : Nat} (hi : i < xss.length) {j : Nat} (hj : j < (row xss i).length) : 0 ≤ nth (row xss i) j ∧ nth (row xss i) j < (P : Int) := by
  have h := setB_iff.1 (blockB_set (hD.2.2 i hi).1)
  exact h.2.1 _ (by rw [nth_eq hj]; exact List.getElem_mem hj)
theorem preL_bd {P : Nat} {xss : List (List Int)} (hD : DsgOk (P : Int) xss) {cls : List Int} (hc : RiseTo 0 ((xss.length : Int) - 1) cls cls.length) {k : Nat} (hk : k ≤ cls.length) : ∀ x ∈ preL xss cls k, 0 ≤ x ∧ x < (P : Int) := by
  intro x hx
  unfold preL at hx
  rw [List.mem_flatMap] at hx
  obtain ⟨i, hi, hx⟩ := hx
  have hm := hc.mem (List.mem_of_mem_take hi)
  obtain ⟨j, hj, rfl⟩ := mem_nth.1 hx
  exact rowOk hD (by omega) hj
/-- A point that is met twice. -/
theorem not_class {P : Nat} {xss : List (List Int)} {cls : List Int} {k j : Nat} (hk : k < cls.length) (hj : j < (row xss (nth cls k).toNat).length)
    (h : nth (row xss (nth cls k).toNat) j ∈ preL xss cls k ++ (row xss (nth cls k).toNat).take j) : classB P xss cls = false := by
  refine decide_eq_false fun hc => ?_
  obtain ⟨r, hr⟩ := preL_le (xss := xss) (cls := cls) (k := k + 1) (m := cls.length) (by omega) (Nat.le_refl _)
  have hd := hc.2.1
  rw [hr, preL_succ hk] at hd
  have h1 := (List.nodup_append.1 hd).1
  rw [← List.take_append_drop (j + 1) (row xss (nth cls k).toNat), ← List.append_assoc] at h1
  have h2 := (List.nodup_append.1 h1).1
  rw [take_nth hj, ← List.append_assoc] at h2
  have h3 := (List.nodup_append.1 h2).2.2 _ h _ (List.mem_singleton.2 rfl)
  exact h3 rfl

theorem nodup_snoc {L : List Int} {x : Int} (h : L.Nodup) (hx : x ∉ L) : (L ++ [x]).Nodup := by
  rw [List.nodup_append]
  refine ⟨h, by simp, ?_⟩
  intro a ha b hb
  rw [List.mem_singleton] at hb
  subst hb
  exact fun e => hx (e ▸ ha)

section
variable {w w' : World} {B : Nat} {p : Int} {A : Option Addr} {n c : Nat}
theorem BoxD.step (h : BoxD w B p A n c) {lo : Nat} (hl : B < lo) (hb : Below lo w w') : BoxD w' B p A n c :=
  ⟨(hb.cell (p := ⟨B, 0, none⟩) hl).trans h.c0, (hb.cell (p := ⟨B, 1, none⟩) hl).trans h.c1⟩
end

set_option maxHeartbeats 4000000 in
theorem isClass_c (w : World) (P : Nat) (A : Option Addr) (n c : Nat) (R : Spine) (xss : List (List Int)) (hr : RdM w A c R xss) (hn : xss.length = n) (hD : DsgOk (P : Int) xss)
    (B : Option Addr) (m d : Nat) (cls : List Int) (hs : RdI w B d cls) (hm : cls.length = m) (hm1 : m ≤ 1048576) :
    Calls Try.prog 101 #[.agg #[.int .i64 (P : Int), .slice A n c], .slice B m d] w (PostV w (.bool (classB P xss cls))) := by
  have hP1 : 1 ≤ P := by have := hD.1.1; omega
  have hP2 : P ≤ 32 := by have := hD.1.2; omega
  have hn1 : n ≤ 128 := by have := hD.2.1; omega
  obtain ⟨W, hW⟩ : ∃ W, W = w.alloc (.cells #[.int .i64 (P : Int), .slice A n c] 28) := ⟨_, rfl⟩
  have hB0 : Below w.heap.size w W := by rw [hW]; exact below_boxed _ _
  have hG : W.heap.size = w.heap.size + 1 := by rw [hW]; simp
  have hX : BoxD W w.heap.size (P : Int) A n c := by rw [hW]; exact BoxD.made _ _ _ _ _ _
  have hmk := fun W : World => run_make_row' (P := Try.prog) 121 4 (.bool false) 1 Try.underlying121 infoB rfl .i64 .i64 P (by omega) (by omega) W
  have H0 := Lib.hid (OwnB.made W P (by unfold maxLen; omega) (Nat.le_refl W.heap.size))
  have HB00 := Lib.hid (show Below W.heap.size W (W.alloc (.cells (madeCells #[.bool false] P) 4)) from below_boxed _ _)
  obtain ⟨T, hT⟩ : ∃ T, T = classB P xss cls := ⟨_, rfl⟩
  rw [← hT]
  have HT := Lib.hid hT
  have HD := Lib.hid hD
  have HN := Lib.hid hn
  have HM := Lib.hid hm
  have HR := Lib.hid (hr.below hB0)
  have HS := Lib.hid (hs.below hB0)
  have HX := Lib.hid hX
  have HG := Lib.hid hG
  have HB0 := Lib.hid hB0
  have HBox := Lib.hid hX
  have hc0 := hX.c0
  rw [hW] at hc0 HB00 H0
  have HW := Lib.hid hW
  clear hB0 hG hX hT hD hn hm hr hs hW
  go_enter Try.func101, Try.ntmps101
  go_wp2
  clear hmk
  have HO0 := Lib.hid (show OwnB ((w.alloc (.cells #[.int .i64 (P : Int), .slice A n c] 28)).alloc (.cells (madeCells #[.bool false] P) 4)) W.heap.size (w.heap.size + 1) P (covV P []) by
    rw [covV_nil, ← HG.out, HW.out]; exact H0.out)
  have HBw := Lib.hid (show Below W.heap.size W ((w.alloc (.cells #[.int .i64 (P : Int), .slice A n c] 28)).alloc (.cells (madeCells #[.bool false] P) 4)) by rw [HW.out]; exact HB00.out)
  clear hc0 H0 HB00
  generalize ((w.alloc (.cells #[.int .i64 (P : Int), .slice A n c] 28)).alloc (.cells (madeCells #[.bool false] P) 4)) = w0 at *
  go_loopw [6, 16] (fun l i wr => ∃ (k : Nat) (L : Int), k ≤ m ∧ i = .int .i64 k ∧ l = .int .i64 L ∧ -1 ≤ L ∧ L ≤ 127 ∧ Hid (L = lastOf cls k) ∧ Hid (RiseTo 0 ((n : Int) - 1) cls k) ∧ Hid ((preL xss cls k).Nodup) ∧ Hid (OwnB wr W.heap.size (w.heap.size + 1) P (covV P (preL xss cls k))) ∧ Hid (Below W.heap.size W wr)) (fun _ i _ => m - (intOf i).toNat)
  case atStart => exact ⟨0, -1, Nat.zero_le _, rfl, rfl, by omega, by omega, rfl, RiseTo.zero _ _ _, by rw [preL_zero]; exact List.nodup_nil, by rw [preL_zero]; exact HO0.out, HBw.out⟩
  case round =>
    obtain ⟨k, L, hk, rfl, rfl, hL1, hL2, hL, hP, hND, HO, HB⟩ := hrel
    have hbx := HBox.out.step (by have := HG.out; omega) HB.out
    have hc1 := hbx.c1
    clear hbx
    by_cases hlt : k < m
    · have hkx : k < cls.length := by rw [HM.out]; exact hlt
      obtain ⟨b, off, e, hb, hc⟩ := HS.out.at_ k hkx
      subst e
      have hcc := (HB.out.cell (p := ⟨b, off + k, none⟩) hb).trans hc
      clear hc
      have hcall := within_c (nth cls k) (L + 1) ((n : Int) - 1)
      obtain ⟨y, hy⟩ : ∃ y, y = nth cls k := ⟨_, rfl⟩
      have HY := Lib.hid hy
      rw [← hy] at hcall hcc
      by_cases hin : L + 1 ≤ y ∧ y ≤ (n : Int) - 1
      · rw [inB_true.2 hin] at hcall
        have HC := Lib.hid hcall
        have HP1 := Lib.hid (hP.out.next (hi := (n : Int) - 1) (by rw [← hy]; omega) (fun h0 => by
          have h3 := hin.1
          rw [hL.out, hy] at h3
          unfold lastOf at h3
          rw [if_neg (by omega)] at h3
          omega))
        have HL1 := Lib.hid (show y = lastOf cls (k + 1) by rw [lastOf_succ]; exact hy)
        obtain ⟨yn, hyn⟩ : ∃ yn : Nat, y = (yn : Int) := ⟨y.toNat, by omega⟩
        subst hyn
        have hyx : yn < xss.length := by rw [HN.out]; omega
        have hyl : (yn : Int) ≤ 127 := by omega
        have hyb : yn < n := by omega
        obtain ⟨b1, o1, e1, hb1, hd1⟩ := HR.out.at_ yn hyx
        subst e1
        have hd1' := (HB.out.cell (p := ⟨b1, o1 + yn, none⟩) hb1).trans hd1
        obtain ⟨s, hs⟩ : ∃ s, s = row xss yn := ⟨_, rfl⟩
        have HRow := Lib.hid (show row xss (nth cls k).toNat = s by rw [hs, ← HY.out]; rfl)
        have hrs := HR.out.rows yn hyx
        rw [← hs] at hd1' hrs
        obtain ⟨q, hq⟩ : ∃ q, q = s.length := ⟨_, rfl⟩
        rw [← hq] at hd1'
        have HQ := Lib.hid hq
        have hq32 : q ≤ 1048576 := by
          have h1 := setB_iff.1 (blockB_set (HD.out.2.2 yn hyx).1)
          have h2 := nodup_count (P := P) (L := row xss yn) (by
            refine List.Pairwise.imp ?_ h1.1
            intro a b h e; omega) h1.2.1
          have h3 := List.length_filter_le (fun i => hasB (row xss yn) ((i : Nat) : Int)) (List.range P)
          rw [List.length_range] at h3
          rw [hq, hs]; omega
        have HRs := Lib.hid hrs
        have HBd := Lib.hid (show ∀ j, j < q → 0 ≤ nth s j ∧ nth s j < (P : Int) from fun j hj => by rw [hs]; exact rowOk HD.out hyx (by rw [← hs, ← hq]; exact hj))
        clear hcall hin hd1 hs hrs hq hyx hy
        go_wp2_with (go_at_call 77; refine (sizeS_c _ _ _ _).mono ?_; rintro e w' ⟨rfl, rfl⟩)
        refine (HC.out _).mono ?_
        rintro e w' ⟨rfl, rfl⟩
        go_wp2
        obtain ⟨wo, hwo⟩ : ∃ wo, wo = wr := ⟨_, rfl⟩
        rw [← hwo] at HB HO hc1 hcc hd1' ⊢
        clear hwo
        go_loopw [36] (fun i wr => ∃ j : Nat, j ≤ q ∧ i = .int .i64 j ∧ Hid ((preL xss cls k ++ s.take j).Nodup) ∧ Hid (OwnB wr W.heap.size (w.heap.size + 1) P (covV P (preL xss cls k ++ s.take j))) ∧ Hid (Below W.heap.size W wr)) (fun i _ => q - (intOf i).toNat)
        case atStart => exact ⟨0, Nat.zero_le _, rfl, by rw [List.take_zero, List.append_nil]; exact hND, by rw [List.take_zero, List.append_nil]; exact HO, HB⟩
        case round =>
          obtain ⟨j, hj, rfl, hND2, HO2, HB2⟩ := hrel
          by_cases hlt2 : j < q
          · have hjx : j < s.length := by rw [← HQ.out]; exact hlt2
            obtain ⟨b2, o2, e2, hb2, hd2⟩ := HRs.out.at_ j hjx
            obtain ⟨hx0, hx1⟩ := HBd.out j hlt2
            have hd2' := (HB2.out.cell (p := ⟨b2, o2 + j, none⟩) hb2).trans hd2
            have HTk := Lib.hid (take_nth hjx)
            obtain ⟨xn, hxn⟩ : ∃ xn : Nat, nth s j = (xn : Int) := ⟨(nth s j).toNat, by omega⟩
            have HXn := Lib.hid hxn
            rw [hxn] at hd2' hx1
            have hxP : xn < P := by omega
            obtain ⟨hf, hfz⟩ := HO2.out.at_ hxP
            rw [covV_flag hxP] at hf
            have hx0' : (0 : Int) ≤ (xn : Int) := by omega
            clear hd2 hx0 hxn
            rw [e2]
            rcases hv : hasB (preL xss cls k ++ s.take j) (xn : Int) with _ | _
            · rw [hv] at hf
              have HND3 := Lib.hid (show (preL xss cls k ++ s.take (j + 1)).Nodup by
                rw [HTk.out, ← List.append_assoc]
                refine nodup_snoc hND2.out ?_
                rw [HXn.out]
                exact hasB_false.1 hv)
              have HO3 := Lib.hid (show OwnB (wr.setCell ⟨w.heap.size + 1, xn, none⟩ (.bool true)) W.heap.size (w.heap.size + 1) P (covV P (preL xss cls k ++ s.take (j + 1))) by
                rw [HTk.out, ← List.append_assoc, HXn.out, ← covV_set hxP]
                exact HO2.out.stored xn true)
              have HB3 := Lib.hid (HB2.out.setCell (p := ⟨w.heap.size + 1, xn, none⟩) (by show W.heap.size ≤ w.heap.size + 1; have := HG.out; omega) (.bool true))
              clear hv HTk HXn
              go_wp2
              go_roundw
              case rel => exact ⟨j + 1, by omega, by go_num, HND3, HO3, HB3⟩
              case measure => simp [intOf]; omega
            · rw [hv] at hf
              have HF := Lib.hid (show T = false by
                rw [HT.out]
                refine not_class hkx (j := j) (by rw [HRow.out, ← HQ.out]; exact hlt2) ?_
                rw [HRow.out, HXn.out]
                exact hasB_true.1 hv)
              have HB3 := Lib.hid (HB0.out.trans (HB2.out.mono HB0.out.size))
              clear hv HTk HXn
              go_wp2
              go_ret
              exact ⟨ret_b HF.out.symm, HB3.out⟩
          · obtain rfl : j = q := by omega
            have hpre : preL xss cls (k + 1) = preL xss cls k ++ s.take j := by rw [preL_succ hkx, HRow.out, HQ.out, List.take_length]
            have HPre := Lib.hid hpre
            clear hpre
            go_wp2
            go_roundw
            case rel => exact ⟨k + 1, (yn : Int), by omega, by go_num, rfl, by omega, by omega, HL1, HP1, by rw [HPre.out]; exact hND2, by rw [HPre.out]; exact HO2, HB2⟩
            case measure => simp [intOf]; omega
      · rw [inB_false.2 hin] at hcall
        have HC := Lib.hid hcall
        have HF := Lib.hid (show T = false by
          rw [HT.out]
          refine decide_eq_false fun h => hin ?_
          have h1 := h.1 k hkx
          rw [hy, ← HN.out]
          refine ⟨?_, by omega⟩
          rw [hL.out]
          unfold lastOf
          split
          · omega
          · have := h1.2 (by omega); omega)
        have HB3 := Lib.hid (HB0.out.trans (HB.out.mono HB0.out.size))
        clear hcall hin hy
        go_wp2_with (go_at_call 77; refine (sizeS_c _ _ _ _).mono ?_; rintro e w' ⟨rfl, rfl⟩)
        refine (HC.out _).mono ?_
        rintro e w' ⟨rfl, rfl⟩
        go_wp2
        go_ret
        exact ⟨ret_b HF.out.symm, HB3.out⟩
    · obtain rfl : k = m := by omega
      have HCo := Lib.hid (containsB_c wr (some ⟨w.heap.size + 1, 0, none⟩) P P (covV P (preL xss cls k)) false HO.out.rd (by omega))
      have HF := Lib.hid (show (!anyTo (idxF (covV P (preL xss cls k)) false) P) = T by
        rw [HT.out]
        rcases ha : anyTo (idxF (covV P (preL xss cls k)) false) P with _ | _
        · symm
          refine decide_eq_true ⟨by rw [HM.out, HN.out]; exact hP.out, by rw [HM.out]; exact hND.out, fun i hi => ?_⟩
          have := (anyTo_false.1 ha) i hi
          unfold idxF at this
          rw [covV_flag hi] at this
          have := of_decide_eq_false this
          rw [HM.out]
          exact hasB_true.1 (by simpa using this)
        · obtain ⟨i, hi, hv⟩ := anyTo_true.1 ha
          symm
          refine decide_eq_false fun h => ?_
          unfold idxF at hv
          rw [covV_flag hi] at hv
          have := hasB_false.1 (of_decide_eq_true hv)
          have h2 := h.2.2 i hi
          rw [HM.out] at h2
          exact this h2)
      generalize anyTo (idxF (covV P (preL xss cls k)) false) P = z at *
      have HB3 := Lib.hid (HB0.out.trans (HB.out.mono HB0.out.size))
      go_wp2_with fail
      refine (HCo.out).mono ?_
      rintro e w' ⟨rfl, rfl⟩
      go_wp2
      go_ret
      exact ⟨ret_b HF.out, HB3.out⟩

theorem preL_len {P : Nat} {xss : List (List Int)} (hD : DsgOk (P : Int) xss) {cls : List Int} (hc : RiseTo 0 ((xss.length : Int) - 1) cls cls.length) {k : Nat} (hk : k ≤ cls.length) (hd : (preL xss cls k).Nodup) : (preL xss cls k).length ≤ P := by
  rw [nodup_count hd (preL_bd hD hc hk)]
  have := List.length_filter_le (fun i => hasB (preL xss cls k) ((i : Nat) : Int)) (List.range P)
  rwa [List.length_range] at this

set_option maxHeartbeats 4000000 in
theorem l14Class_c (w : World) (Bx P : Nat) (A : Option Addr) (n c : Nat) (R : Spine) (xss : List (List Int)) (hx : BoxD w Bx (P : Int) A n c) (hr : RdM w A c R xss) (hn : xss.length = n) (hD : DsgOk (P : Int) xss)
    (B : Option Addr) (m d : Nat) (cls : List Int) (hs : RdI w B d cls) (hm : cls.length = m) (hm1 : m ≤ 1048576) :
    Calls Try.prog 99 #[.pointer (some ⟨Bx, 0, none⟩), .slice B m d] w (PostV w (.bool (classB P xss cls))) := by
  have hP1 : 1 ≤ P := by have := hD.1.1; omega
  have hP2 : P ≤ 32 := by have := hD.1.2; omega
  have hn1 : n ≤ 128 := by have := hD.2.1; omega
  have hV := rises_c w B m d cls 0 ((n : Int) - 1) hs hm
  have hc1 := hx.c1
  obtain ⟨T, hT⟩ : ∃ T, T = classB P xss cls := ⟨_, rfl⟩
  rw [← hT]
  have HT := Lib.hid hT
  have HX := Lib.hid hx
  have HN := Lib.hid hn
  have HM := Lib.hid hm
  rcases hri : riseB 0 ((n : Int) - 1) cls with _ | _
  · rw [hri] at hV
    have HV := Lib.hid hV
    have HF := Lib.hid (show T = false by
      rw [HT.out]
      refine decide_eq_false fun h => ?_
      have := of_decide_eq_false hri
      rw [← HN.out] at this
      exact this h.1)
    clear hV hri hx hT hr hn hs hm
    go_enter Try.func99, Try.ntmps99
    go_wp2_with fail
    refine (HV.out).mono ?_
    rintro e w1 ⟨rfl, q, rfl⟩
    go_wp2
    go_ret
    exact ⟨ret_b HF.out.symm, below_drewN (Below.refl _ _) q⟩
  · rw [hri] at hV
    have HV := Lib.hid hV
    have HRi := Lib.hid (show RiseTo 0 ((xss.length : Int) - 1) cls cls.length by rw [hn]; exact of_decide_eq_true hri)
    have hmk := fun W : World => run_make_row' (P := Try.prog) 121 4 (.bool false) 1 Try.underlying121 infoB rfl .i64 .i64 P (by omega) (by omega) W
    have HD := Lib.hid hD
    have HR := Lib.hid hr
    have HS := Lib.hid hs
    clear hV hri hx hT hD hn hm hr hs
    go_enter Try.func99, Try.ntmps99
    go_wp2_with fail
    refine (HV.out).mono ?_
    rintro e w1 ⟨rfl, q0, rfl⟩
    have hB1 : Below w.heap.size w (w.drewN q0) := below_drewN (Below.refl _ _) q0
    have hz1 : (w.drewN q0).heap.size = w.heap.size := rfl
    have hx1 := HX.out.drewN q0
    have hc01 := hx1.c0
    have hc11 := hx1.c1
    have HR1 := Lib.hid (HR.out.drewN q0)
    have HS1 := Lib.hid (HS.out.drewN q0)
    have HX1 := Lib.hid hx1
    clear hc1 hx1 HR HS HX
    generalize w.drewN q0 = w1 at *
    have HZ := Lib.hid hz1
    have H0 := Lib.hid (OwnB.made w1 P (by unfold maxLen; omega) (Nat.le_refl w1.heap.size))
    have HBw := Lib.hid (below_boxed w1 (.cells (madeCells #[.bool false] P) 4))
    have HB1 := Lib.hid hB1
    clear hz1 hB1
    go_wp2
    clear hmk hc01 hc11
    have HO0 := Lib.hid (show OwnB (w1.alloc (.cells (madeCells #[.bool false] P) 4)) w1.heap.size w1.heap.size P (covV P []) by rw [covV_nil]; exact H0.out)
    clear H0
    obtain ⟨G, hG⟩ : ∃ G, G = w1.heap.size := ⟨_, rfl⟩
    have HG := Lib.hid hG
    have hBG : Bx < G := by rw [hG]; exact HX1.out.lt
    rw [← hG] at HO0 HBw ⊢
    clear hG
    generalize (w1.alloc (.cells (madeCells #[.bool false] P) 4)) = w0 at *
    go_loopw [6, 7, 8, 9] (fun s i _ _ wr => ∃ k : Nat, k ≤ m ∧ i = .int .i64 k ∧ s = .int .i64 (((preL xss cls k).length : Nat) : Int) ∧ Hid ((preL xss cls k).Nodup) ∧ Hid (OwnB wr G G P (covV P (preL xss cls k))) ∧ Hid (Below G w1 wr)) (fun _ i _ _ _ => m - (intOf i).toNat)
    case atStart => exact ⟨0, Nat.zero_le _, rfl, by simp [preL_zero], by rw [preL_zero]; exact List.nodup_nil, by rw [preL_zero]; exact HO0.out, HBw.out⟩
    case round =>
      obtain ⟨k, hk, rfl, rfl, hND, HO, HB⟩ := hrel
      have hbx := HX1.out.step hBG HB.out
      have hc0 := hbx.c0
      have hc1 := hbx.c1
      have HLen := Lib.hid (preL_len HD.out HRi.out (by rw [HM.out]; exact hk) hND.out)
      clear hbx
      by_cases hlt : k < m
      · have hkx : k < cls.length := by rw [HM.out]; exact hlt
        obtain ⟨b, off, e, hb, hc⟩ := HS1.out.at_ k hkx
        subst e
        have hcc := (HB.out.cell (p := ⟨b, off + k, none⟩) (by rw [HG.out]; exact hb)).trans hc
        have hi0 : (0 : Int) ≤ (k : Int) := by omega
        have hi1 : (k : Int) < (m : Int) := by omega
        clear hc
        have hin := (HRi.out k hkx).1
        obtain ⟨yn, hyn⟩ : ∃ yn : Nat, nth cls k = (yn : Int) := ⟨(nth cls k).toNat, by omega⟩
        have hyx : yn < xss.length := by omega
        have hyb : (yn : Int) < (n : Int) := by have := HN.out; omega
        have hy0 : (0 : Int) ≤ (yn : Int) := by omega
        rw [hyn] at hcc
        obtain ⟨b1, o1, e1, hb1, hd1⟩ := HR1.out.at_ yn hyx
        subst e1
        have hd1' := (HB.out.cell (p := ⟨b1, o1 + yn, none⟩) (by rw [HG.out]; exact hb1)).trans hd1
        obtain ⟨s, hs⟩ : ∃ s, s = row xss yn := ⟨_, rfl⟩
        have HRow := Lib.hid (show row xss (nth cls k).toNat = s by rw [hs, hyn]; rfl)
        have hrs := HR1.out.rows yn hyx
        rw [← hs] at hd1' hrs
        obtain ⟨q, hq⟩ : ∃ q, q = s.length := ⟨_, rfl⟩
        rw [← hq] at hd1'
        have HQ := Lib.hid hq
        have hq32 : q ≤ 1048576 := by
          have h1 := setB_iff.1 (blockB_set (HD.out.2.2 yn hyx).1)
          have h2 := nodup_count (P := P) (L := row xss yn) (by
            refine List.Pairwise.imp ?_ h1.1
            intro a b h e; omega) h1.2.1
          have h3 := List.length_filter_le (fun i => hasB (row xss yn) ((i : Nat) : Int)) (List.range P)
          rw [List.length_range] at h3
          rw [hq, hs]; omega
        have HRs := Lib.hid hrs
        have HBd := Lib.hid (show ∀ j, j < q → 0 ≤ nth s j ∧ nth s j < (P : Int) from fun j hj => by rw [hs]; exact rowOk HD.out hyx (by rw [← hs, ← hq]; exact hj))
        have hlen := HLen.out
        obtain ⟨z, hzz⟩ : ∃ z, z = (preL xss cls k).length := ⟨_, rfl⟩
        have HZz := Lib.hid hzz
        rw [← hzz] at hlen ⊢
        clear hd1 hs hrs hq hyx hyn hin hzz
        go_wp2
        go_quiet (fail)
        obtain ⟨wo, hwo⟩ : ∃ wo, wo = wr.drewN nq := ⟨_, rfl⟩
        have HBo := Lib.hid (show Below G w1 wo by rw [hwo]; exact below_drewN HB.out nq)
        have HOo := Lib.hid (show OwnB wo G G P (covV P (preL xss cls k)) by rw [hwo]; exact HO.out.drewN nq)
        rw [← hwo]
        clear hwo hc0 hc1 hcc hd1'
        go_wp2
        go_loopw [6, 9] (fun v i wr => ∃ j : Nat, j ≤ q ∧ i = .int .i64 j ∧ v = .int .i64 ((z : Int) + (j : Int)) ∧ Hid ((preL xss cls k ++ s.take j).Nodup) ∧ Hid (OwnB wr G G P (covV P (preL xss cls k ++ s.take j))) ∧ Hid (Below G w1 wr)) (fun _ i _ => q - (intOf i).toNat)
        case atStart => exact ⟨0, Nat.zero_le _, rfl, by go_num, by rw [List.take_zero, List.append_nil]; exact hND, by rw [List.take_zero, List.append_nil]; exact HOo, HBo⟩
        case round =>
          obtain ⟨j, hj, rfl, rfl, hND2, HO2, HB2⟩ := hrel
          by_cases hlt2 : j < q
          · have hjx : j < s.length := by rw [← HQ.out]; exact hlt2
            obtain ⟨b2, o2, e2, hb2, hd2⟩ := HRs.out.at_ j hjx
            obtain ⟨hx0, hx1⟩ := HBd.out j hlt2
            have hd2' := (HB2.out.cell (p := ⟨b2, o2 + j, none⟩) (by rw [HG.out]; exact hb2)).trans hd2
            have HTk := Lib.hid (take_nth hjx)
            obtain ⟨xn, hxn⟩ : ∃ xn : Nat, nth s j = (xn : Int) := ⟨(nth s j).toNat, by omega⟩
            have HXn := Lib.hid hxn
            rw [hxn] at hd2' hx1
            have hxP : xn < P := by omega
            obtain ⟨hf, hfz⟩ := HO2.out.at_ hxP
            rw [covV_flag hxP] at hf
            have hx0' : (0 : Int) ≤ (xn : Int) := by omega
            have hj0 : (0 : Int) ≤ (j : Int) := by omega
            have hj1 : (j : Int) < (q : Int) := by omega
            clear hd2 hx0 hxn
            rw [e2]
            rcases hv : hasB (preL xss cls k ++ s.take j) (xn : Int) with _ | _
            · rw [hv] at hf
              have HND3 := Lib.hid (show (preL xss cls k ++ s.take (j + 1)).Nodup by
                rw [HTk.out, ← List.append_assoc]
                refine nodup_snoc hND2.out ?_
                rw [HXn.out]
                exact hasB_false.1 hv)
              have HO3 := Lib.hid (show OwnB (wr.setCell ⟨G, xn, none⟩ (.bool true)) G G P (covV P (preL xss cls k ++ s.take (j + 1))) by
                rw [HTk.out, ← List.append_assoc, HXn.out, ← covV_set hxP]
                exact HO2.out.stored xn true)
              have HB3 := Lib.hid (HB2.out.setCell (p := ⟨G, xn, none⟩) (Nat.le_refl _) (.bool true))
              clear hv HTk HXn
              go_wp2
              go_roundw
              case rel => exact ⟨j + 1, by omega, by go_num, by go_num, HND3, HO3, HB3⟩
              case measure => simp [intOf]; omega
            · rw [hv] at hf
              have HF := Lib.hid (show T = false by
                rw [HT.out]
                refine not_class hkx (j := j) (by rw [HRow.out, ← HQ.out]; exact hlt2) ?_
                rw [HRow.out, HXn.out]
                exact hasB_true.1 hv)
              have HB3 := Lib.hid (show Below w.heap.size w wr from HB1.out.trans (HB2.out.mono (by rw [HG.out, HZ.out]; exact Nat.le_refl _)))
              clear hv HTk HXn
              go_wp2
              go_ret
              exact ⟨ret_b HF.out.symm, HB3.out⟩
          · obtain rfl : j = q := by omega
            have HPre := Lib.hid (show preL xss cls (k + 1) = preL xss cls k ++ s.take j by rw [preL_succ hkx, HRow.out, HQ.out, List.take_length])
            have HPl := Lib.hid (show (preL xss cls (k + 1)).length = z + j by rw [preL_succ hkx, HRow.out, List.length_append, HZz.out, HQ.out])
            go_wp2
            go_roundw
            case rel => exact ⟨k + 1, by omega, by go_num, by rw [HPl.out]; go_num, by rw [HPre.out]; exact hND2, by rw [HPre.out]; exact HO2, HB2⟩
            case measure => simp [intOf]; omega
      · obtain rfl : k = m := by omega
        have HF := Lib.hid (show decide ((preL xss cls k).length = P) = T by
          rw [HT.out]
          have hb := preL_bd HD.out HRi.out (k := k) (by rw [HM.out]; exact Nat.le_refl _)
          refine decide_eq_decide.2 ((nodup_full hND.out hb).trans ⟨fun h => ⟨HRi.out, by rw [HM.out]; exact hND.out, fun i hi => by rw [HM.out]; exact h i hi⟩, fun h i hi => by have := h.2.2 i hi; rw [HM.out] at this; exact this⟩))
        have HB3 := Lib.hid (show Below w.heap.size w wr from HB1.out.trans (HB.out.mono (by rw [HG.out, HZ.out]; exact Nat.le_refl _)))
        generalize (preL xss cls k).length = z at *
        by_cases hz : z = P
        · have hd : ((z : Int) == (P : Int)) = true := by simp [hz]
          have HF2 := Lib.hid (show true = T by rw [← HF.out]; exact (decide_eq_true hz).symm)
          clear hz
          go_wp2
          go_ret
          exact ⟨ret_b HF2.out, HB3.out⟩
        · have hd : ((z : Int) == (P : Int)) = false := by simp; omega
          have HF2 := Lib.hid (show false = T by rw [← HF.out]; exact (decide_eq_false hz).symm)
          clear hz
          go_wp2
          go_ret
          exact ⟨ret_b HF2.out, HB3.out⟩

/-! ### IsParallelClass -/

def isClassB (p : Int) (xss : List (List Int)) (cls : List Int) : Bool := dsgB p xss && classB p.toNat xss cls

end Go.Proofs.Ytpgmjfgjlddhgaa
