/-
  DifferenceTable: l13Set, l13Ok of the reference, areBases of the program, and both answers. Conditions: those of each theorem.
-/
import Derived.Test.YtdcegepkgcflpaaDiff
import Derived.Test.YtdcegepkgcflpaaLawKit
namespace Go.Proofs.Ytdcegepkgcflpaa
open Go.RowKit
set_option linter.unusedVariables false
set_option linter.unusedSimpArgs false

def Set13 (n : Int) (xs : List Int) : Prop := (1 ≤ n ∧ n ≤ 32) ∧ RiseTo 0 (n - 1) xs xs.length
instance (n : Int) (xs : List Int) : Decidable (Set13 n xs) := by unfold Set13; infer_instance
def set13 (n : Int) (xs : List Int) : Bool := decide (Set13 n xs)

set_option maxHeartbeats 1000000 in
theorem l13Set_c (w : World) (A : Option Addr) (m c : Nat) (xs : List Int) (n : Int) (hr : RdI w A c xs) (hn : xs.length = m) :
    Calls Try.prog 65 #[.int .i64 n, .slice A m c] w (EndQ (.bool (set13 n xs)) w) := by
  have hw := in_c n 1 32
  by_cases h1 : 1 ≤ n ∧ n ≤ 32
  · rw [inB_true.2 h1] at hw
    have hs : IntKind.i64.wrap (n - 1) = n - 1 := IntWalk.i64_in _ (by omega)
    have HW := Lib.hid hw
    have HC := Lib.hid (rises_c w A m c xs 0 (n - 1) hr hn)
    rw [show set13 n xs = riseB 0 (n - 1) xs by unfold set13 riseB Set13; simp [h1]]
    generalize riseB 0 (n - 1) xs = q at *
    clear hw hr hn h1
    go_enter Try.func65, Try.ntmps65
    go_wp2_with fail
    refine (HW.out _).mono ?_
    rintro e w' ⟨rfl, rfl⟩
    go_wp2_with fail
    refine (HC.out).mono ?_
    rintro e w' ⟨rfl, k, rfl⟩
    go_wp2
    go_ret
    exact ⟨rfl, ⟨_, rfl⟩⟩
  · rw [inB_false.2 h1] at hw
    have HW := Lib.hid hw
    rw [show set13 n xs = false from decide_eq_false (fun h => h1 h.1)]
    clear hw hr hn h1
    go_enter Try.func65, Try.ntmps65
    go_wp2_with fail
    refine (HW.out _).mono ?_
    rintro e w' ⟨rfl, rfl⟩
    go_wp2
    go_ret
    exact ⟨rfl, ⟨0, rfl⟩⟩

/-- What the sets of a family have to be. -/
def Base (n : Int) (sets : List (List Int)) (k : Nat) : Prop := ∀ j, j < k → Set13 n (row sets j) ∧ 0 < (row sets j).length
def BaseOk (n : Int) (sets : List (List Int)) : Prop := Base n sets sets.length ∧ (1 ≤ n ∧ n ≤ 32) ∧ sets.length ≤ 8
instance (n : Int) (sets : List (List Int)) (k : Nat) : Decidable (Base n sets k) := by unfold Base; infer_instance
instance (n : Int) (sets : List (List Int)) : Decidable (BaseOk n sets) := by unfold BaseOk; infer_instance
def baseB (n : Int) (sets : List (List Int)) : Bool := decide (BaseOk n sets)

set_option maxHeartbeats 2000000 in
theorem l13Ok_c (w : World) (n : Int) (A : Option Addr) (m c : Nat) (R : Spine) (sets : List (List Int)) (hr : RdM w A c R sets) (hm : sets.length = m) :
    Calls Try.prog 32 #[.int .i64 n, .slice A m c] w (EndQ (.bool (baseB n sets)) w) := by
  have hmx : m ≤ 9223372036854775807 := by have h1 := hr.le; have h2 := hr.cap; unfold maxLen at h2; omega
  have HR := Lib.hid hr
  have HM := Lib.hid hm
  obtain ⟨T, hT⟩ : ∃ T, T = baseB n sets := ⟨_, rfl⟩
  rw [← hT]
  have HT := Lib.hid hT
  clear hr hm hT
  go_enter Try.func32, Try.ntmps32
  go_wp2
  go_loopw [5] (fun i wr => ∃ k : Nat, k ≤ m ∧ i = .int .i64 k ∧ Hid (Base n sets k) ∧ Qt w wr) (fun i _ => m - (intOf i).toNat)
  case atStart => exact ⟨0, Nat.zero_le _, rfl, fun j hj => absurd hj (by omega), Qt.refl w⟩
  case round =>
    obtain ⟨k, hk, rfl, hP, ⟨d, rfl⟩⟩ := hrel
    by_cases hlt : k < m
    · have hkx : k < sets.length := by rw [HM.out]; exact hlt
      obtain ⟨b, off, rfl, hb, hc⟩ := HR.out.at_ k hkx
      have hrow := HR.out.rows k hkx
      have hcall := fun q => l13Set_c (w.drewN q) _ _ _ (row sets k) n (hrow.drewN q) rfl
      obtain ⟨s, hs⟩ : ∃ s, s = row sets k := ⟨_, rfl⟩
      have HSk := Lib.hid hs
      rw [← hs] at hcall hc
      clear hrow hs
      obtain ⟨L, hL⟩ : ∃ L, L = s.length := ⟨_, rfl⟩
      have HL := Lib.hid hL
      rw [← hL] at hcall hc
      clear hL
      by_cases h1 : Set13 n s
      · rw [show set13 n s = true from decide_eq_true h1] at hcall
        have HC := Lib.hid hcall
        have H1 := Lib.hid h1
        clear hcall h1
        by_cases h0 : L = 0
        · have HF := Lib.hid (show T = false by
            rw [HT.out]
            refine decide_eq_false (fun h => ?_)
            have := (h.1 k hkx).2
            rw [← HSk.out, ← HL.out] at this; omega)
          have hd : ((L : Int) == 0) = true := by rw [beq_iff_eq]; omega
          clear h0
          go_wp2_with fail
          refine (HC.out _).mono ?_
          rintro e w' ⟨rfl, d2, rfl⟩
          go_wp2
          go_ret
          exact ⟨ret_b HF.out.symm, (by first | exact qt2 _ _ _ | exact ⟨_, rfl⟩ | exact Qt.trans (qt2 _ _ _) ⟨_, rfl⟩)⟩
        · have HP : Hid (Base n sets (k + 1)) := Lib.hid (fun j hj => by
            by_cases e : j = k
            · subst e; rw [← HSk.out, ← HL.out]; exact ⟨H1.out, by omega⟩
            · exact hP.out j (by omega))
          have hd : ((L : Int) == 0) = false := by rw [beq_eq_false_iff_ne]; omega
          clear h0
          go_wp2_with fail
          refine (HC.out _).mono ?_
          rintro e w' ⟨rfl, d2, rfl⟩
          go_wp2
          go_roundw
          case rel => exact ⟨k + 1, by omega, by go_num, HP.out, (by first | exact qt2 _ _ _ | exact ⟨_, rfl⟩ | exact Qt.trans (qt2 _ _ _) ⟨_, rfl⟩)⟩
          case measure => simp [intOf]; omega
      · rw [show set13 n s = false from decide_eq_false h1] at hcall
        have HC := Lib.hid hcall
        have HF := Lib.hid (show T = false by
          rw [HT.out]
          refine decide_eq_false (fun h => h1 ?_)
          rw [HSk.out]; exact (h.1 k hkx).1)
        clear hcall h1
        go_wp2_with fail
        refine (HC.out _).mono ?_
        rintro e w' ⟨rfl, d2, rfl⟩
        go_wp2
        go_ret
        exact ⟨ret_b HF.out.symm, (by first | exact qt2 _ _ _ | exact ⟨_, rfl⟩ | exact Qt.trans (qt2 _ _ _) ⟨_, rfl⟩)⟩
    · obtain rfl : k = m := by omega
      have hw := in_c n 1 32
      by_cases h1 : 1 ≤ n ∧ n ≤ 32
      · rw [inB_true.2 h1] at hw
        have HW := Lib.hid hw
        have HF := Lib.hid (show decide ((k : Int) ≤ 8) = T by
          rw [HT.out]
          unfold baseB BaseOk
          refine decide_eq_decide.2 ⟨fun h => ⟨by rw [HM.out]; exact hP.out, h1, by rw [HM.out]; omega⟩, fun h => by have := h.2.2; rw [HM.out] at this; omega⟩)
        clear hw h1
        go_wp2_with fail
        refine (HW.out _).mono ?_
        rintro e w' ⟨rfl, rfl⟩
        go_wp2
        go_ret
        exact ⟨ret_b HF.out, ⟨_, rfl⟩⟩
      · rw [inB_false.2 h1] at hw
        have HW := Lib.hid hw
        have HF := Lib.hid (show T = false by
          rw [HT.out]
          exact decide_eq_false (fun h => h1 h.2.1))
        clear hw h1
        go_wp2_with fail
        refine (HW.out _).mono ?_
        rintro e w' ⟨rfl, rfl⟩
        go_wp2
        go_ret
        exact ⟨ret_b HF.out.symm, ⟨_, rfl⟩⟩

theorem base_blocks (n : Int) (sets : List (List Int)) : baseB n sets = (blocksB sets n && decide (sets.length ≤ 8)) := by
  unfold baseB blocksB
  rw [← Bool.decide_and]
  refine decide_eq_decide.2 ⟨fun h => ⟨⟨h.2.1, fun k hk => ?_⟩, h.2.2⟩, fun h => ⟨fun j hj => ?_, h.1.1, h.2⟩⟩
  · have := h.1 k hk
    simp only [blockB, setB, Bool.and_eq_true, decide_eq_true_eq]
    exact ⟨this.2, this.1.2, by have := h.2.1; omega, h.2.1.2⟩
  · have h2 := h.1.2 j hj
    simp only [blockB, setB, Bool.and_eq_true, decide_eq_true_eq] at h2
    exact ⟨⟨h.1.1, h2.2.1⟩, h2.1⟩

set_option maxHeartbeats 1000000 in
theorem areBases_c (w : World) (n : Int) (A : Option Addr) (m c : Nat) (R : Spine) (sets : List (List Int)) (hr : RdM w A c R sets) (hm : sets.length = m) :
    Calls Try.prog 36 #[.int .i64 n, .slice A m c] w (PostV w (.bool (baseB n sets))) := by
  have hc := areBlocks_c w A m c R sets n hr hm
  rw [base_blocks, hm]
  clear hr
  rcases hq : blocksB sets n with _ | _
  · rw [hq] at hc
    have HC := Lib.hid hc
    rw [Bool.false_and]
    clear hc hm hq
    go_enter Try.func36, Try.ntmps36
    go_wp2_with fail
    refine (HC.out).mono ?_
    rintro e w' ⟨rfl, hb⟩
    go_wp2
    go_ret
    exact ⟨rfl, hb⟩
  · rw [hq] at hc
    have HC := Lib.hid hc
    rw [Bool.true_and, show decide (m ≤ 8) = decide ((m : Int) ≤ 8) by exact decide_eq_decide.2 (by omega)]
    clear hc hm hq
    go_enter Try.func36, Try.ntmps36
    go_wp2_with fail
    refine (HC.out).mono ?_
    rintro e w' ⟨rfl, hb⟩
    go_wp2
    go_ret
    exact ⟨rfl, hb⟩

theorem BaseOk.sets {n : Nat} {sets : List (List Int)} (h : BaseOk (n : Int) sets) : SetsOk n sets :=
  ⟨by have := h.2.1; omega, by have := h.2.1; omega, fun i hi => ⟨(h.1 i hi).1.2, (h.1 i hi).2⟩⟩

def diffL (n : Int) (sets : List (List Int)) : List Int := if baseB n sets then incS n.toNat sets sets.length else []
def diffC (n : Int) (sets : List (List Int)) : Int := if baseB n sets then 0 else 1
theorem DifferenceTable_small (n : Int) (sets : List (List Int)) : (diffL n sets).length ≤ 1048576 := by
  unfold diffL
  split
  · next h =>
      have h := of_decide_eq_true h
      rw [length_incS]
      have := h.2.1
      omega
  · simp

end Go.Proofs.Ytdcegepkgcflpaa
