/-
  Sets of points: l00Rises, l13Set, l13Ok of the reference; ValidSet, isBlock, areBlocks, areBases of the program. Conditions: those of each theorem.
-/
import Derived.Test.YthgbfgdnljgicabFuncs
import Derived.Test.YthgbfgdnljgicabMat
namespace Go.Proofs.Ythgbfgdnljgicab
open Go.RowKit
set_option linter.unusedVariables false
set_option linter.unusedSimpArgs false

/-- The first k numbers rise, from lo to hi. -/
def RiseTo (lo hi : Int) (xs : List Int) (k : Nat) : Prop := ∀ j, j < k → (lo ≤ nth xs j ∧ nth xs j ≤ hi) ∧ (0 < j → nth xs (j - 1) < nth xs j)
instance (lo hi : Int) (xs : List Int) (k : Nat) : Decidable (RiseTo lo hi xs k) := by unfold RiseTo; infer_instance
def riseB (lo hi : Int) (xs : List Int) : Bool := decide (RiseTo lo hi xs xs.length)
theorem RiseTo.zero (lo hi : Int) (xs : List Int) : RiseTo lo hi xs 0 := fun j hj => absurd hj (by omega)
theorem RiseTo.next {lo hi : Int} {xs : List Int} {k : Nat} (h : RiseTo lo hi xs k) (h1 : lo ≤ nth xs k ∧ nth xs k ≤ hi) (h2 : 0 < k → nth xs (k - 1) < nth xs k) : RiseTo lo hi xs (k + 1) := fun j hj => by
  by_cases e : j = k
  · subst e; exact ⟨h1, h2⟩
  · exact h j (by omega)

theorem quiet_dr {f : FuncId} {args : Array Value} {w : World} {n : Nat} {v : Value} (h : Calls Try.prog f args (w.drewN n) fun e w' => e = .returned v ∧ w.drewN n = w') :
    Calls Try.prog f args (w.drewN n) fun e w' => e = .returned v ∧ ∃ m, w' = w.drewN m :=
  h.mono fun _ _ ⟨he, hm⟩ => ⟨he, n, hm.symm⟩
theorem quiet_drN {f : FuncId} {args : Array Value} {w : World} {a n : Nat} {v : Value} (h : Calls Try.prog f args (w.drewN (a + n)) fun e w' => e = .returned v ∧ w.drewN (a + n) = w') :
    Calls Try.prog f args (w.drewN (a + n)) fun e w' => e = .returned v ∧ ∃ m, w' = w.drewN (a + m) :=
  h.mono fun _ _ ⟨he, hm⟩ => ⟨he, n, hm.symm⟩
theorem quiet_w2 {f : FuncId} {args : Array Value} {w : World} {v : Value} (h : Calls Try.prog f args w fun e w' => e = .returned v ∧ w = w') :
    Calls Try.prog f args w fun e w' => e = .returned v ∧ ∃ m, w' = w.drewN m :=
  h.mono fun _ _ ⟨he, hm⟩ => ⟨he, 0, hm.symm⟩

set_option maxHeartbeats 1000000 in
theorem rises_c (w : World) (A : Option Addr) (n c : Nat) (xs : List Int) (lo hi : Int) (hr : RdI w A c xs) (hn : xs.length = n) :
    Calls Try.prog 45 #[.slice A n c, .int .i64 lo, .int .i64 hi] w (EndQ (.bool (riseB lo hi xs)) w) := by
  have hm : n ≤ 9223372036854775807 := by have h1 := hr.le; have h2 := hr.cap; unfold maxLen at h2; omega
  have HR := Lib.hid hr
  have HN := Lib.hid hn
  obtain ⟨T, hT⟩ : ∃ T, T = riseB lo hi xs := ⟨_, rfl⟩
  rw [← hT]
  have HT := Lib.hid hT
  clear hr hn hT
  go_enter Try.func45, Try.ntmps45
  go_wp2
  go_loopw [7] (fun i wr => ∃ k : Nat, k ≤ n ∧ i = .int .i64 k ∧ Hid (RiseTo lo hi xs k) ∧ Qt w wr) (fun i _ => n - (intOf i).toNat)
  case atStart => exact ⟨0, Nat.zero_le _, rfl, RiseTo.zero _ _ _, Qt.refl w⟩
  case round =>
    obtain ⟨k, hk, rfl, hP, ⟨m, rfl⟩⟩ := hrel
    by_cases hlt : k < n
    · have hkx : k < xs.length := by rw [HN.out]; exact hlt
      obtain ⟨b, off, rfl, hb, hc⟩ := HR.out.at_ k hkx
      have hcall := in_c (nth xs k) lo hi
      have hi0 : (0 : Int) ≤ (k : Int) := by omega
      have hi1 : (k : Int) < (n : Int) := by omega
      by_cases h1 : lo ≤ nth xs k ∧ nth xs k ≤ hi
      · rw [inB_true.2 h1] at hcall
        have HC := Lib.hid hcall
        have H1 := Lib.hid h1
        by_cases h0 : k = 0
        · have HP := Lib.hid (hP.out.next h1 (by omega))
          subst h0
          simp only [Nat.add_zero] at hc
          clear hcall h1
          go_wp2
          go_quiet ((go_at_call 26; exact quiet_drN (HC.out _)))
          go_wp2
          go_roundw
          case rel => exact ⟨1, by omega, rfl, HP.out, ⟨_, rfl⟩⟩
          case measure => simp [intOf]; omega
        · obtain ⟨b', off', e, _, hc2⟩ := HR.out.at_ (k - 1) (by omega)
          injection e with e
          injection e with e1 e2
          subst e1 e2
          have hk0 : decide (0 < (k : Int)) = true := by simp; omega
          have hk0' : (0 : Int) < (k : Int) := by omega
          have hk1 : 0 < k := by omega
          have hk2 : decide (0 < k) = true := decide_eq_true hk1
          have hsub : IntKind.i64.wrap ((k : Int) - 1) = ((k - 1 : Nat) : Int) := by rw [show (k : Int) - 1 = ((k - 1 : Nat) : Int) by omega]; exact IntWalk.i64_in _ (by omega)
          have hs0 : (0 : Int) ≤ ((k - 1 : Nat) : Int) := by omega
          have hs1 : ((k - 1 : Nat) : Int) < (n : Int) := by omega
          generalize hj : k - 1 = j at hsub hs0 hs1 hc2
          have HJ := Lib.hid hj
          by_cases h2 : nth xs j < nth xs k
          · have HP := Lib.hid (hP.out.next h1 (fun _ => by rw [hj]; exact h2))
            have h2' : decide (nth xs k ≤ nth xs j) = false := by simp; omega
            clear hcall h1 h0 hj
            go_wp2
            go_quiet ((go_at_call 26; exact quiet_drN (HC.out _)))
            clear hsub
            go_wp2
            go_roundw
            case rel => exact ⟨k + 1, by omega, by go_num, HP.out, ⟨_, rfl⟩⟩
            case measure => simp [intOf]; omega
          · have h2' : decide (nth xs k ≤ nth xs j) = true := by simp; omega
            have HF := Lib.hid (show T = false by
              rw [HT.out]
              refine decide_eq_false (fun h => h2 ?_)
              have := (h k hkx).2 (by omega)
              rw [hj] at this
              exact this)
            clear hcall h1 h0 hj
            go_wp2
            go_quiet ((go_at_call 26; exact quiet_drN (HC.out _)))
            clear hsub
            go_wp2
            go_ret
            exact ⟨ret_b HF.out.symm, qt2 _ _ _⟩
      · rw [inB_false.2 h1] at hcall
        have HC := Lib.hid hcall
        have HF := Lib.hid (show T = false by
          rw [HT.out]
          exact decide_eq_false (fun h => h1 (h k hkx).1))
        clear hcall h1
        go_wp2
        go_quiet ((go_at_call 26; exact quiet_drN (HC.out _)))
        go_wp2
        go_ret
        exact ⟨ret_b HF.out.symm, qt2 _ _ _⟩
    · obtain rfl : k = n := by omega
      have HF := Lib.hid (show T = true by
        rw [HT.out]
        exact decide_eq_true (by rw [HN.out]; exact hP.out))
      go_wp2
      go_ret
      exact ⟨ret_b HF.out.symm, m, rfl⟩

/-! ### The program's sets -/

def setB (xs : List Int) (n : Int) : Bool := decide (RiseTo 0 (n - 1) xs xs.length ∧ 0 ≤ n ∧ n ≤ 32)
def lastOf (xs : List Int) (k : Nat) : Int := if k = 0 then -1 else nth xs (k - 1)
theorem lastOf_succ (xs : List Int) (k : Nat) : lastOf xs (k + 1) = nth xs k := by simp [lastOf]

set_option maxHeartbeats 1000000 in
theorem ValidSet_c (w : World) (A : Option Addr) (m c : Nat) (xs : List Int) (n : Int) (hr : RdI w A c xs) (hn : xs.length = m) :
    Calls Try.prog 64 #[.slice A m c, .int .i64 n] w fun e w' => e = .returned (.bool (setB xs n)) ∧ w = w' := by
  have hm : m ≤ 9223372036854775807 := by have h1 := hr.le; have h2 := hr.cap; unfold maxLen at h2; omega
  have HR := Lib.hid hr
  have HN := Lib.hid hn
  obtain ⟨T, hT⟩ : ∃ T, T = setB xs n := ⟨_, rfl⟩
  rw [← hT]
  have HT := Lib.hid hT
  clear hr hn hT
  go_enter Try.func64, Try.ntmps64
  go_wp2
  go_loop [5, 10] (fun l i => ∃ (k : Nat) (L : Int), k ≤ m ∧ i = .int .i64 k ∧ l = .int .i64 L ∧ Hid (L = lastOf xs k) ∧ Hid (RiseTo 0 (n - 1) xs k)) (fun _ i => m - (intOf i).toNat)
  case atStart => exact ⟨0, -1, Nat.zero_le _, rfl, rfl, rfl, RiseTo.zero _ _ _⟩
  case round =>
    obtain ⟨k, L, hk, rfl, rfl, hL, hP⟩ := hrel
    by_cases hlt : k < m
    · have hkx : k < xs.length := by rw [HN.out]; exact hlt
      obtain ⟨b, off, rfl, hb, hc⟩ := HR.out.at_ k hkx
      have hlow : -1 ≤ L := by
        rw [hL.out]
        unfold lastOf
        split
        · omega
        · have := (hP.out (k - 1) (by omega)).1.1; omega
      by_cases h1 : nth xs k ≤ L
      · have HF := Lib.hid (show T = false by
          rw [HT.out]
          refine decide_eq_false (fun h => ?_)
          have h2 := h.1 k hkx
          rw [hL.out] at h1
          unfold lastOf at h1
          split at h1
          · omega
          · have := h2.2 (by omega); omega)
        go_wp2
        go_ret
        exact ⟨ret_b HF.out.symm, rfl⟩
      · have h1' : L < nth xs k := by omega
        by_cases h2 : n ≤ nth xs k
        · have HF := Lib.hid (show T = false by
            rw [HT.out]
            exact decide_eq_false (fun h => by have := (h.1 k hkx).1.2; omega))
          clear h1
          go_wp2
          go_ret
          exact ⟨ret_b HF.out.symm, rfl⟩
        · have h2' : nth xs k < n := by omega
          have HP := Lib.hid (hP.out.next ⟨by omega, by omega⟩ (fun h0 => by
            have h3 := h1'
            rw [hL.out] at h3
            unfold lastOf at h3
            rw [if_neg (by omega)] at h3
            exact h3))
          clear h1 h2
          go_wp2
          go_round
          case rel => exact ⟨k + 1, _, by omega, by go_num, rfl, by show _ = _; rw [lastOf_succ], HP.out⟩
          case measure => simp [intOf]; omega
    · obtain rfl : k = m := by omega
      have hw := within_c n 0 32
      have HW := Lib.hid hw
      have HF := Lib.hid (show inB n 0 32 = T by
        rw [HT.out]
        unfold inB setB
        refine decide_eq_decide.2 ⟨fun h => ⟨by rw [HN.out]; exact hP.out, h⟩, fun h => h.2⟩)
      clear hw
      go_wp2_with fail
      refine (HW.out _).mono ?_
      rintro e w' ⟨rfl, rfl⟩
      go_wp2
      go_ret
      exact ⟨ret_b HF.out, rfl⟩

def blockB (xs : List Int) (n : Int) : Bool := decide (0 < xs.length) && setB xs n
set_option maxHeartbeats 400000 in
theorem isBlock_c (w : World) (A : Option Addr) (m c : Nat) (xs : List Int) (n : Int) (hr : RdI w A c xs) (hn : xs.length = m) :
    Calls Try.prog 49 #[.slice A m c, .int .i64 n] w fun e w' => e = .returned (.bool (blockB xs n)) ∧ w = w' := by
  have HV := Lib.hid (ValidSet_c w A m c xs n hr hn)
  by_cases h0 : 0 < m
  · have h0' : (0 : Int) < (m : Int) := by omega
    rw [show blockB xs n = setB xs n by simp [blockB, hn, h0]]
    clear hr hn
    go_enter Try.func49, Try.ntmps49
    go_wp2_with fail
    refine (HV.out).mono ?_
    rintro e w' ⟨rfl, rfl⟩
    go_wp2
    go_ret
    exact ⟨rfl, rfl⟩
  · obtain rfl : m = 0 := by omega
    rw [show blockB xs n = false by simp [blockB, hn]]
    clear hr hn h0
    go_enter Try.func49, Try.ntmps49
    go_wp2
    go_ret
    exact ⟨rfl, rfl⟩

/-- The literal of areBlocks: no block. -/
theorem notBlock_c (W : World) (B : Nat) (A : Option Addr) (m c : Nat) (xs : List Int) (n : Int) (hr : RdI W A c xs) (hn : xs.length = m) (hcell : W.cell? ⟨B, 0, none⟩ = some (.int .i64 n)) :
    Calls Try.prog 48 #[.slice A m c, .pointer (some ⟨B, 0, none⟩)] W (PostV W (.bool (!blockB xs n))) := by
  have HV := Lib.hid (isBlock_c W A m c xs n hr hn)
  clear hr hn
  go_enter Try.func48, Try.ntmps48
  go_wp2_with fail
  refine (HV.out).mono ?_
  rintro e w' ⟨rfl, rfl⟩
  go_wp2
  go_ret
  exact ⟨rfl, Below.refl _ _⟩

def BlocksOk (xss : List (List Int)) (n : Int) : Prop := (1 ≤ n ∧ n ≤ 32) ∧ ∀ k, k < xss.length → blockB (row xss k) n = true
instance (xss : List (List Int)) (n : Int) : Decidable (BlocksOk xss n) := by unfold BlocksOk; infer_instance
def blocksB (xss : List (List Int)) (n : Int) : Bool := decide (BlocksOk xss n)

set_option maxHeartbeats 1000000 in
theorem areBlocks_c (w : World) (A : Option Addr) (m c : Nat) (R : Spine) (xss : List (List Int)) (n : Int) (hr : RdM w A c R xss) (hn : xss.length = m) :
    Calls Try.prog 35 #[.slice A m c, .int .i64 n] w (PostV w (.bool (blocksB xss n))) := by
  have hB0 : Below w.heap.size w (w.alloc (.cells #[.int .i64 n] 2)) := (Below.refl _ _).alloc (Nat.le_refl _) _
  have hmf : ∀ (fn : Fn) (first cap : Array Value) (w : World), (Instr.makeFunc fn first cap).run Try.prog w = .ok (.func fn first cap) w := fun _ _ _ _ => rfl
  have hw := within_c n 1 32
  by_cases h1 : 1 ≤ n ∧ n ≤ 32
  · rw [inB_true.2 h1] at hw
    have HW := Lib.hid hw
    have HX := Lib.hid (show (w.alloc (.cells #[.int .i64 n] 2)).cell? ⟨w.heap.size, 0, none⟩ = some (.int .i64 n) from World.cell?_alloc_at _ _ _ _ rfl)
    have hrb := hr.below hB0
    have eg := enters_of Try.func48 (by kernel_rfl) rfl
    have HC := Lib.hid (containsFuncM (w.alloc (.cells #[.int .i64 n] 2)) A m c R xss 48 #[.pointer (some ⟨w.heap.size, 0, none⟩)] (fun k => !blockB (row xss k) n) eg hrb hn (fun W k hk hBW =>
      notBlock_c W w.heap.size _ _ _ (row xss k) n ((hrb.rows k (by omega)).keep hBW.size fun _ hp => hBW.cell hp) rfl ((hBW.cell (p := ⟨w.heap.size, 0, none⟩) (by simp)).trans HX.out)))
    have HF := Lib.hid (show blocksB xss n = !anyTo (fun k => !blockB (row xss k) n) m by
      rcases ha : anyTo (fun k => !blockB (row xss k) n) m with _ | _
      · refine decide_eq_true ⟨h1, fun k hk => ?_⟩
        have := (anyTo_false.1 ha) k (by omega)
        simpa using this
      · obtain ⟨k, hk, hb⟩ := anyTo_true.1 ha
        refine decide_eq_false (fun h => ?_)
        have := h.2 k (by omega)
        rw [this] at hb
        cases hb)
    rw [HF.out]
    generalize anyTo (fun k => !blockB (row xss k) n) m = q at *
    clear hw hr hn hrb eg HF HX
    go_enter Try.func35, Try.ntmps35
    go_wp2_with fail
    refine (HW.out _).mono ?_
    rintro e w' ⟨rfl, rfl⟩
    go_wp2_with fail
    refine (HC.out).mono ?_
    rintro e w2 ⟨rfl, hb2⟩
    have hB := hB0.trans (hb2.mono (by simp))
    go_wp2
    go_ret
    exact ⟨rfl, hB⟩
  · rw [inB_false.2 h1] at hw
    have HW := Lib.hid hw
    rw [show blocksB xss n = false from decide_eq_false (fun h => h1 h.1)]
    clear hw hr hn h1
    go_enter Try.func35, Try.ntmps35
    go_wp2_with fail
    refine (HW.out _).mono ?_
    rintro e w' ⟨rfl, rfl⟩
    go_wp2
    go_ret
    exact ⟨rfl, hB0⟩
end Go.Proofs.Ythgbfgdnljgicab
