/-
  Hadamard matrices: what ValidHadamard of the program and of the reference answer. Conditions: those of each theorem.
-/
import Derived.Test.YtdneldecedbepaaSquare
namespace Go.Proofs.Ytdneldecedbepaa
open Go.RowKit
set_option linter.unusedVariables false
set_option linter.unusedSimpArgs false

/-- The sum of the first k products. -/
def dotTo (a b : List Int) : Nat → Int
  | 0 => 0
  | k + 1 => dotTo a b k + nth a k * nth b k
def HRow (n : Nat) (r : List Int) : Prop := r.length = n ∧ ∀ k, k < n → nth r k = 1 ∨ nth r k = -1
def ValidH (h : List (List Int)) : Prop :=
  (1 ≤ h.length ∧ h.length ≤ 32) ∧ (∀ i, i < h.length → HRow h.length (row h i)) ∧ ∀ i, i < h.length → ∀ k, k < i → dotTo (row h i) (row h k) h.length = 0
noncomputable def validB (h : List (List Int)) : Bool := @decide (ValidH h) (Classical.propDecidable _)
theorem validB_true {h : List (List Int)} (hv : ValidH h) : validB h = true := by unfold validB; exact @decide_eq_true _ (Classical.propDecidable _) hv
theorem validB_false {h : List (List Int)} (hv : ¬ ValidH h) : validB h = false := by unfold validB; exact @decide_eq_false _ (Classical.propDecidable _) hv
theorem validB_iff {h : List (List Int)} : validB h = true ↔ ValidH h := by
  constructor
  · intro hb
    rcases Classical.em (ValidH h) with hv | hv
    · exact hv
    · rw [validB_false hv] at hb; cases hb
  · exact validB_true
theorem pm_mul {x y : Int} (hx : x = 1 ∨ x = -1) (hy : y = 1 ∨ y = -1) : -1 ≤ x * y ∧ x * y ≤ 1 := by
  rcases hx with rfl | rfl <;> rcases hy with rfl | rfl <;> decide

theorem RdI.opened {w : World} {A : Option Addr} {c : Nat} {xs : List Int} (h : RdI w A c xs) (hn : 0 < xs.length) :
    ∃ b off, A = some ⟨b, off, none⟩ ∧ b < w.heap.size ∧ ∀ k, k < xs.length → w.cell? ⟨b, off + k, none⟩ = some (.int .i64 (nth xs k)) := by
  obtain ⟨b, off, rfl, hb, _⟩ := h.at_ 0 hn
  refine ⟨b, off, rfl, hb, fun k hk => ?_⟩
  obtain ⟨b', off', e, _, hc⟩ := h.at_ k hk
  injection e with e
  injection e with e1 e2
  subst e1 e2
  exact hc

/-- A value that is the function's number. -/
theorem notPm_c (x : Int) (w : World) : Calls Try.prog 103 #[.int .i64 x] w (PostV w (.bool (decide (x ≠ 1 ∧ x ≠ -1)))) := by
  by_cases h1 : x = 1
  · have h1' : (x != 1) = false := by simp [h1]
    rw [decide_eq_false (fun h => h.1 h1)]
    clear h1
    go_enter Try.func103, Try.ntmps103
    go_wp2
    go_ret
    exact ⟨rfl, Below.refl _ _⟩
  · have h1' : (x != 1) = true := by simp [h1]
    by_cases h2 : x = -1
    · have h2' : (x != -1) = false := by simp [h2]
      rw [decide_eq_false (fun h => h.2 h2)]
      clear h1 h2
      go_enter Try.func103, Try.ntmps103
      go_wp2
      go_ret
      exact ⟨rfl, Below.refl _ _⟩
    · have h2' : (x != -1) = true := by simp [h2]
      rw [decide_eq_true ⟨h1, h2⟩]
      clear h1 h2
      go_enter Try.func103, Try.ntmps103
      go_wp2
      go_ret
      exact ⟨rfl, Below.refl _ _⟩

set_option maxHeartbeats 400000 in
/-- The reference's sum of products, at rows of 1 and -1. -/
theorem dot_c (w : World) (A A' : Option Addr) (n c c' : Nat) (a b : List Int) (ha : RdI w A c a) (hb : RdI w A' c' b) (h1 : HRow n a) (h2 : HRow n b) (hn : n ≤ 1048576) :
    Calls Try.prog 99 #[.slice A n c, .slice A' n c'] w (EndQ (.int .i64 (dotTo a b n)) w) := by
  have HA := Lib.hid ha
  have HB := Lib.hid hb
  have H1 := Lib.hid h1
  have H2 := Lib.hid h2
  clear ha hb h1 h2
  go_enter Try.func99, Try.ntmps99
  go_wp2
  go_loopw [5, 6] (fun s i wr => ∃ (k : Nat) (d : Int), k ≤ n ∧ i = .int .i64 k ∧ s = .int .i64 d ∧ Hid (d = dotTo a b k) ∧ -(k : Int) ≤ d ∧ d ≤ (k : Int) ∧ Qt w wr) (fun _ i _ => n - (intOf i).toNat)
  case atStart => exact ⟨0, 0, Nat.zero_le _, rfl, rfl, rfl, by simp, by simp, Qt.refl w⟩
  case round =>
    obtain ⟨k, d, hk, rfl, rfl, hd, hd1, hd2, ⟨m, rfl⟩⟩ := hrel
    by_cases hlt : k < n
    · obtain ⟨b1, o1, rfl, hb1, hc1⟩ := HA.out.at_ k (by rw [H1.out.1]; exact hlt)
      obtain ⟨b2, o2, rfl, hb2, hc2⟩ := HB.out.at_ k (by rw [H2.out.1]; exact hlt)
      have hp := pm_mul (H1.out.2 k hlt) (H2.out.2 k hlt)
      obtain ⟨hp1, hp2⟩ := hp
      have hw1 : IntKind.i64.wrap (nth a k * nth b k) = nth a k * nth b k := IntWalk.i64_in _ (by omega)
      have hw2 : IntKind.i64.wrap (d + nth a k * nth b k) = d + nth a k * nth b k := IntWalk.i64_in _ (by omega)
      have HD := Lib.hid (show d + nth a k * nth b k = dotTo a b (k + 1) by rw [dotTo, hd.out])
      go_wp2
      go_quiet (fail)
      clear hw1 hw2
      go_wp2
      go_roundw
      case rel => exact ⟨k + 1, _, by omega, by go_num, rfl, HD, by omega, by omega, ⟨_, rfl⟩⟩
      case measure => simp [intOf]; omega
    · obtain rfl : k = n := by omega
      have HD := Lib.hid hd.out
      go_wp2
      go_ret
      exact ⟨ret_i HD.out, m, rfl⟩

/-- Rows below i are rows of 1 and -1. -/
def RowsTo (h : List (List Int)) (n i : Nat) : Prop := ∀ j, j < i → HRow n (row h j)
def DotsTo (h : List (List Int)) (n i : Nat) : Prop := ∀ j, j < i → ∀ k, k < j → dotTo (row h j) (row h k) n = 0
theorem RdM.opened {w : World} {A : Option Addr} {c : Nat} {R : Spine} {h : List (List Int)} (hr : RdM w A c R h) {k : Nat} (hk : k < h.length) :
    ∃ b off A' C, A = some ⟨b, off, none⟩ ∧ b < w.heap.size ∧ w.cell? ⟨b, off + k, none⟩ = some (.slice A' (row h k).length C) ∧ RdI w A' C (row h k) := by
  obtain ⟨b, off, e, hb, hc⟩ := hr.at_ k hk
  exact ⟨b, off, _, _, e, hb, hc, hr.rows k hk⟩

set_option maxHeartbeats 1000000 in
theorem l15Ok_c (w : World) (A : Option Addr) (n c : Nat) (R : Spine) (h : List (List Int)) (hr : RdM w A c R h) (hn : h.length = n) :
    Calls Try.prog 70 #[.slice A n c] w (PostV w (.bool (validB h))) := by
  by_cases h0 : 1 ≤ n ∧ n ≤ 32
  rotate_left
  · have hv := Lib.hid (validB_false (h := h) (fun hv => h0 (by rw [← hn]; exact hv.1)))
    have hm : n ≤ 9223372036854775807 := by have h1 := hr.le; have h2 := hr.cap; unfold maxLen at h2; omega
    have h1 : (n : Int) < 1 ∨ 32 < (n : Int) := by omega
    clear h0 hn hr
    rcases h1 with h1 | h1
    · go_enter Try.func70, Try.ntmps70
      go_wp2
      go_ret
      exact ⟨ret_b hv.out.symm, Below.refl _ _⟩
    · go_enter Try.func70, Try.ntmps70
      go_wp2
      go_ret
      exact ⟨ret_b hv.out.symm, Below.refl _ _⟩
  obtain ⟨h1, h2⟩ := h0
  have HR := Lib.hid hr
  have HN := Lib.hid hn
  clear hr hn
  go_enter Try.func70, Try.ntmps70
  go_wp2
  go_loopw [4] (fun i wr => ∃ k : Nat, k ≤ n ∧ i = .int .i64 k ∧ Hid (RowsTo h n k) ∧ Below w.heap.size w wr) (fun i _ => n - (intOf i).toNat)
  case atStart => exact ⟨0, Nat.zero_le _, rfl, fun j hj => absurd hj (by omega), Below.refl _ _⟩
  case round =>
    obtain ⟨k, hk, rfl, hF, hB⟩ := hrel
    obtain ⟨wo, rfl⟩ : ∃ wo : World, wo = wr := ⟨_, rfl⟩
    by_cases hlt : k < n
    · have hkx : k < h.length := by rw [HN.out]; exact hlt
      obtain ⟨b, off, A1, C1, rfl, hb, hc, hr1⟩ := HR.out.opened hkx
      have hc' := (hB.cell (p := ⟨b, off + k, none⟩) hb).trans hc
      clear hc
      by_cases hl : (row h k).length = n
      · rw [hl] at hc'
        obtain ⟨b1, o1, rfl, hb1, hcs⟩ := hr1.opened (by omega)
        have HCS := Lib.hid hcs
        have HLn := Lib.hid hl
        clear hcs hr1 hl
        go_wp2
        go_loopw [5] (fun i wi => ∃ q : Nat, q ≤ n ∧ i = .int .i64 q ∧ Hid (∀ j, j < q → nth (row h k) j = 1 ∨ nth (row h k) j = -1) ∧ wo = wi) (fun i _ => n - (intOf i).toNat)
        case atStart => exact ⟨0, Nat.zero_le _, rfl, fun j hj => absurd hj (by omega), rfl⟩
        case round =>
          obtain ⟨q, hq, rfl, hQ, rfl⟩ := hrel
          by_cases hlt2 : q < n
          · have hcq := (hB.cell (p := ⟨b1, o1 + q, none⟩) hb1).trans (HCS.out q (by rw [HLn.out]; exact hlt2))
            by_cases h3 : nth (row h k) q = 1
            · have h3' : (nth (row h k) q != 1) = false := by simp [h3]
              have H3 := Lib.hid h3
              clear h3
              go_wp2
              go_roundw
              case rel =>
                refine ⟨q + 1, by omega, by go_num, fun j hj => ?_, trivial⟩
                by_cases e : j = q
                · subst e; exact .inl H3.out
                · exact hQ.out j (by omega)
              case measure => simp [intOf]; omega
            · have h3' : (nth (row h k) q != 1) = true := by simp [h3]
              by_cases h4 : nth (row h k) q = -1
              · have h4' : (nth (row h k) q != -1) = false := by simp [h4]
                have H4 := Lib.hid h4
                clear h3 h4
                go_wp2
                go_roundw
                case rel =>
                  refine ⟨q + 1, by omega, by go_num, fun j hj => ?_, trivial⟩
                  by_cases e : j = q
                  · subst e; exact .inr H4.out
                  · exact hQ.out j (by omega)
                case measure => simp [intOf]; omega
              · have h4' : (nth (row h k) q != -1) = true := by simp [h4]
                have hv := Lib.hid (validB_false (h := h) (fun hv => by
                  have := (hv.2.1 k hkx).2 q (by rw [HN.out]; exact hlt2)
                  omega))
                clear h3 h4
                go_wp2
                go_ret
                exact ⟨by rw [hv.out]; rfl, hB⟩
          · obtain rfl : q = n := by omega
            go_wp2
            go_roundw
            case rel =>
              refine ⟨k + 1, by omega, by go_num, fun j hj => ?_, hB⟩
              by_cases e : j = k
              · subst e; exact ⟨HLn.out, hQ.out⟩
              · exact hF.out j (by omega)
            case measure => simp [intOf]; omega
      · have hne : (((row h k).length : Int) != (n : Int)) = true := by simp; omega
        have hne' : ((row h k).length != n) = true := by simp [hl]
        have hv := Lib.hid (validB_false (h := h) (fun hv => hl (by rw [(hv.2.1 k hkx).1]; exact HN.out)))
        clear hl hr1
        go_wp2
        go_ret
        exact ⟨by rw [hv.out]; rfl, hB⟩
    · obtain rfl : k = n := by omega
      go_wp2
      go_loopw [6] (fun i wr => ∃ q : Nat, q ≤ k ∧ i = .int .i64 q ∧ Hid (DotsTo h k q) ∧ Below w.heap.size w wr) (fun i _ => k - (intOf i).toNat)
      case atStart => exact ⟨0, Nat.zero_le _, rfl, fun j hj => absurd hj (by omega), hB⟩
      case round =>
        obtain ⟨q, hq, rfl, hD, hB2⟩ := hrel
        obtain ⟨w2, rfl⟩ : ∃ w2 : World, w2 = wr := ⟨_, rfl⟩
        by_cases hlt2 : q < k
        · go_wp2
          go_loopw [7] (fun i wi => ∃ p : Nat, p ≤ q ∧ i = .int .i64 p ∧ Hid (∀ j, j < p → dotTo (row h q) (row h j) k = 0) ∧ Below w.heap.size w wi) (fun i _ => q - (intOf i).toNat)
          case atStart => exact ⟨0, Nat.zero_le _, rfl, fun j hj => absurd hj (by omega), hB2⟩
          case round =>
            obtain ⟨p, hp, rfl, hP, hB3⟩ := hrel
            by_cases hlt3 : p < q
            · obtain ⟨b, off, A1, C1, rfl, hb, hc1, hr1⟩ := HR.out.opened (k := q) (by rw [HN.out]; exact hlt2)
              obtain ⟨b', off', A2, C2, e2, hb', hc2, hr2⟩ := HR.out.opened (k := p) (by rw [HN.out]; omega)
              injection e2 with e2
              injection e2 with e2 e3
              subst e2 e3
              have hc1' := (hB3.cell (p := ⟨b, off + q, none⟩) hb).trans hc1
              have hc2' := (hB3.cell (p := ⟨b, off + p, none⟩) hb).trans hc2
              have hq1 := hF.out q hlt2
              have hp1 := hF.out p (by omega)
              rw [hq1.1] at hc1'
              rw [hp1.1] at hc2'
              have hcall := fun m => dot_c (wr.drewN m) A1 A2 k C1 C2 (row h q) (row h p) ((hr1.keep hB3.size fun _ hp => hB3.cell hp).drewN m) ((hr2.keep hB3.size fun _ hp => hB3.cell hp).drewN m) hq1 hp1 (by omega)
              clear hc1 hc2 hr1 hr2
              by_cases hd : dotTo (row h q) (row h p) k = 0
              · rw [hd] at hcall
                have HC := Lib.hid hcall
                have HD := Lib.hid hd
                clear hcall hd hq1 hp1
                go_wp2
                go_quiet ((go_at_call 99; exact quiet_end0 (HC.out _)))
                go_wp2
                go_roundw
                case rel =>
                  refine ⟨p + 1, by omega, by go_num, fun j hj => ?_, below_drewN hB3 _⟩
                  by_cases e : j = p
                  · subst e; exact HD.out
                  · exact hP.out j (by omega)
                case measure => simp [intOf]; omega
              · have hd' : (dotTo (row h q) (row h p) k != 0) = true := by simp [hd]
                have hv := Lib.hid (validB_false (h := h) (fun hv => hd (by
                  have := hv.2.2 q (by rw [HN.out]; exact hlt2) p hlt3
                  rw [HN.out] at this
                  exact this)))
                have HC := Lib.hid hcall
                clear hcall hd hq1 hp1
                go_wp2
                go_quiet ((go_at_call 99; exact quiet_end0 (HC.out _)))
                go_wp2
                go_ret
                exact ⟨by rw [hv.out]; rfl, below_drewN hB3 _⟩
            · obtain rfl : p = q := by omega
              go_wp2
              go_roundw
              case rel =>
                refine ⟨p + 1, by omega, by go_num, fun j hj => ?_, hB3⟩
                by_cases e : j = p
                · subst e; exact hP.out
                · exact hD.out j (by omega)
              case measure => simp [intOf]; omega
        · obtain rfl : q = k := by omega
          have hv := Lib.hid (validB_true (h := h) ⟨by rw [HN.out]; exact ⟨h1, h2⟩, by rw [HN.out]; exact hF.out, by rw [HN.out]; exact hD.out⟩)
          go_wp2
          go_ret
          exact ⟨by rw [hv.out]; rfl, hB2⟩

theorem anyNotPm {r : List Int} {n : Nat} (hl : r.length = n) : anyTo (fun k => decide (nth r k ≠ 1 ∧ nth r k ≠ -1)) n = false ↔ HRow n r := by
  rw [anyTo_false]
  constructor
  · intro h
    refine ⟨hl, fun k hk => ?_⟩
    have := of_decide_eq_false (h k hk)
    omega
  · rintro ⟨_, h⟩ k hk
    have := h k hk
    exact decide_eq_false (by omega)

set_option maxHeartbeats 2000000 in
set_option maxRecDepth 100000 in
theorem implValid_c (w : World) (A : Option Addr) (n c : Nat) (R : Spine) (h : List (List Int)) (hr : RdM w A c R h) (hn : h.length = n) (hz : n ≤ 1048576) :
    Calls Try.prog 72 #[.slice A n c] w (PostV w (.bool (validB h))) := by
  have hnc : n ≤ c := by have := hr.le; rw [hn] at this; exact this
  have hc0 : c ≤ 9223372036854775807 := by have := hr.cap; unfold maxLen at this; omega
  have HR := Lib.hid hr
  have HN := Lib.hid hn
  have eg := enters_of Try.func103 (by kernel_rfl) rfl
  have EG := Lib.hid eg
  clear hr hn eg
  go_enter Try.func72, Try.ntmps72
  go_wp2_with fail
  refine (sizeS_c _ _ _ _).mono ?_
  rintro e w' ⟨rfl, rfl⟩
  go_wp2
  go_loopw [14] (fun i wr => ∃ k : Nat, k ≤ n ∧ i = .int .i64 k ∧ Hid (RowsTo h n k) ∧ Hid (DotsTo h n k) ∧ Below w.heap.size w wr) (fun i _ => n - (intOf i).toNat)
  case atStart => exact ⟨0, Nat.zero_le _, rfl, fun j hj => absurd hj (by omega), fun j hj => absurd hj (by omega), Below.refl _ _⟩
  case round =>
    obtain ⟨k, hk, rfl, hF, hD, hB⟩ := hrel
    obtain ⟨wo, rfl⟩ : ∃ wo : World, wo = wr := ⟨_, rfl⟩
    by_cases hlt : k < n
    · have hkx : k < h.length := by rw [HN.out]; exact hlt
      obtain ⟨b, off, A1, C1, rfl, hb, hc, hr1⟩ := HR.out.opened hkx
      have hc' := (hB.cell (p := ⟨b, off + k, none⟩) hb).trans hc
      clear hc
      by_cases hl : (row h k).length = n
      · rw [hl] at hc'
        obtain ⟨b1, o1, rfl, hb1, hcs⟩ := hr1.opened (by omega)
        have hne : ((n : Int) != (n : Int)) = false := by simp
        have hcon := containsFuncI wo (some ⟨b1, o1, none⟩) n C1 (row h k) 103 #[] (fun q => decide (nth (row h k) q ≠ 1 ∧ nth (row h k) q ≠ -1)) EG.out (hr1.keep hB.size fun _ hp => hB.cell hp) hl (fun W q _ _ => notPm_c _ W)
        have HCS := Lib.hid hcs
        have HLn := Lib.hid hl
        clear hcs hr1
        rcases hany : anyTo (fun q => decide (nth (row h k) q ≠ 1 ∧ nth (row h k) q ≠ -1)) n with _ | _
        · have hrow := (anyNotPm hl).1 hany
          rw [hany] at hcon
          have HC := Lib.hid hcon
          have HRow' := Lib.hid hrow
          clear hcon hany hrow hl
          go_wp2_with fail
          refine (sizeI_c _ _ _ _).mono ?_
          rintro e w' ⟨rfl, rfl⟩
          go_wp2_with fail
          refine (HC.out).mono ?_
          rintro e w1 ⟨rfl, hb'⟩
          have hB1 : Below w.heap.size w w1 := hB.trans (hb'.mono hB.size)
          clear hc'
          go_wp2
          go_loopw [31] (fun i wm => ∃ p : Nat, p ≤ k ∧ i = .int .i64 p ∧ Hid (∀ j, j < p → dotTo (row h k) (row h j) n = 0) ∧ Below w.heap.size w wm) (fun i _ => k - (intOf i).toNat)
          case atStart => exact ⟨0, Nat.zero_le _, rfl, fun j hj => absurd hj (by omega), hB1⟩
          case round =>
            obtain ⟨p, hp, rfl, hP, hB2⟩ := hrel
            obtain ⟨w2, rfl⟩ : ∃ w2 : World, w2 = wr := ⟨_, rfl⟩
            by_cases hlt2 : p < k
            · obtain ⟨b', off', A2, C2, e2, hb', hc2, hr2⟩ := HR.out.opened (k := p) (by rw [HN.out]; omega)
              injection e2 with e2
              injection e2 with e2 e3
              subst e2 e3
              have hp1 := hF.out p hlt2
              rw [hp1.1] at hc2
              obtain ⟨b2, o2, rfl, hb2, hcs2⟩ := hr2.opened (by rw [hp1.1]; omega)
              have hc2' := (hB2.cell (p := ⟨b, off + p, none⟩) hb).trans hc2
              have HCS2 := Lib.hid hcs2
              have HP1 := Lib.hid hp1
              clear hcs2 hr2 hc2 hp1
              go_wp2
              go_loopw [8, 37] (fun s i wi => ∃ (q : Nat) (d : Int), q ≤ n ∧ i = .int .i64 q ∧ s = .int .i64 d ∧ Hid (d = dotTo (row h k) (row h p) q) ∧ -(q : Int) ≤ d ∧ d ≤ (q : Int) ∧ Below w.heap.size w wi) (fun _ i _ => n - (intOf i).toNat)
              case atStart => exact ⟨0, 0, Nat.zero_le _, rfl, rfl, rfl, by simp, by simp, hB2⟩
              case round =>
                obtain ⟨q, d, hq, rfl, rfl, hd, hd1, hd2, hB3⟩ := hrel
                by_cases hlt3 : q < n
                · have hx1 := (hB3.cell (p := ⟨b1, o1 + q, none⟩) hb1).trans (HCS.out q (by rw [HLn.out]; exact hlt3))
                  have hx2 := (hB3.cell (p := ⟨b2, o2 + q, none⟩) hb2).trans (HCS2.out q (by rw [HP1.out.1]; exact hlt3))
                  obtain ⟨hp1, hp2⟩ := pm_mul (HRow'.out.2 q hlt3) (HP1.out.2 q hlt3)
                  have hw1 : IntKind.i64.wrap (nth (row h k) q * nth (row h p) q) = nth (row h k) q * nth (row h p) q := IntWalk.i64_in _ (by omega)
                  have hw2 : IntKind.i64.wrap (d + nth (row h k) q * nth (row h p) q) = d + nth (row h k) q * nth (row h p) q := IntWalk.i64_in _ (by omega)
                  have HD2 := Lib.hid (show d + nth (row h k) q * nth (row h p) q = dotTo (row h k) (row h p) (q + 1) by rw [dotTo, hd.out])
                  go_wp2
                  go_quiet (fail)
                  clear hw1 hw2
                  go_wp2
                  go_roundw
                  case rel => exact ⟨q + 1, _, by omega, by go_num, rfl, HD2, by omega, by omega, below_drewN hB3 _⟩
                  case measure => simp [intOf]; omega
                · obtain rfl : q = n := by omega
                  by_cases hd0 : d = 0
                  · have hd0' : (d != 0) = false := by simp [hd0]
                    have HD0 := Lib.hid (show dotTo (row h k) (row h p) q = 0 by rw [← hd.out, hd0])
                    clear hd0
                    go_wp2
                    go_roundw
                    case rel =>
                      refine ⟨p + 1, by omega, by go_num, fun j hj => ?_, hB3⟩
                      by_cases e : j = p
                      · subst e; exact HD0.out
                      · exact hP.out j (by omega)
                    case measure => simp [intOf]; omega
                  · have hd0' : (d != 0) = true := by simp [hd0]
                    have hv := Lib.hid (validB_false (h := h) (fun hv => hd0 (by
                      have := hv.2.2 k hkx p hlt2
                      rw [HN.out, ← hd.out] at this
                      exact this)))
                    clear hd0
                    go_wp2
                    go_ret
                    exact ⟨by rw [hv.out]; rfl, hB3⟩
            · obtain rfl : p = k := by omega
              go_wp2
              go_roundw
              case rel =>
                refine ⟨p + 1, by omega, by go_num, fun j hj => ?_, fun j hj => ?_, hB2⟩
                · by_cases e : j = p
                  · subst e; exact HRow'.out
                  · exact hF.out j (by omega)
                · by_cases e : j = p
                  · subst e; exact hP.out
                  · exact hD.out j (by omega)
              case measure => simp [intOf]; omega
        · rw [hany] at hcon
          have hv := Lib.hid (validB_false (h := h) (fun hv => by
            have h1 := hv.2.1 k hkx
            rw [HN.out] at h1
            rw [(anyNotPm hl).2 h1] at hany
            cases hany))
          have HC := Lib.hid hcon
          clear hcon hany hl
          go_wp2_with fail
          refine (sizeI_c _ _ _ _).mono ?_
          rintro e w' ⟨rfl, rfl⟩
          go_wp2_with fail
          refine (HC.out).mono ?_
          rintro e w1 ⟨rfl, hb'⟩
          have hB1 : Below w.heap.size w w1 := hB.trans (hb'.mono hB.size)
          go_wp2
          go_ret
          exact ⟨by rw [hv.out]; rfl, hB1⟩
      · have hne : (((row h k).length : Int) != (n : Int)) = true := by simp; omega
        have hne' : ((row h k).length != n) = true := by simp [hl]
        have hv := Lib.hid (validB_false (h := h) (fun hv => hl (by rw [(hv.2.1 k hkx).1]; exact HN.out)))
        clear hl hr1
        go_wp2_with fail
        refine (sizeI_c _ _ _ _).mono ?_
        rintro e w' ⟨rfl, rfl⟩
        go_wp2
        go_ret
        exact ⟨by rw [hv.out]; rfl, hB⟩
    · obtain rfl : k = n := by omega
      by_cases h0 : 1 ≤ k ∧ k ≤ 32
      · have hv := Lib.hid (validB_true (h := h) ⟨by rw [HN.out]; exact h0, by rw [HN.out]; exact hF.out, by rw [HN.out]; exact hD.out⟩)
        have hw := within_c k 1 32
        rw [inB_true.2 (by omega)] at hw
        have HW := Lib.hid hw
        clear hw h0
        go_wp2_with fail
        refine (HW.out _).mono ?_
        rintro e w' ⟨rfl, rfl⟩
        go_wp2
        go_ret
        exact ⟨by rw [hv.out]; rfl, hB⟩
      · have hv := Lib.hid (validB_false (h := h) (fun hv => h0 (by have := hv.1; rw [HN.out] at this; exact this)))
        have hw := within_c k 1 32
        rw [inB_false.2 (by omega)] at hw
        have HW := Lib.hid hw
        clear hw h0
        go_wp2_with fail
        refine (HW.out _).mono ?_
        rintro e w' ⟨rfl, rfl⟩
        go_wp2
        go_ret
        exact ⟨by rw [hv.out]; rfl, hB⟩
end Go.Proofs.Ytdneldecedbepaa
