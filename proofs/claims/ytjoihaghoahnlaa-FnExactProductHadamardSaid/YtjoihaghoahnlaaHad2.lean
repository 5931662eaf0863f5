/-
  ValidHadamard and ExcessOf: contracts of the program's and of the reference's functions. Conditions: those of each theorem.
-/
import Derived.Test.YtjoihaghoahnlaaHad
namespace Go.Proofs.Ytjoihaghoahnlaa
open Go.RowKit
set_option linter.unusedVariables false
set_option linter.unusedSimpArgs false

set_option maxHeartbeats 400000 in
theorem specValidHadamard_c (w : World) (A : Option Addr) (n c : Nat) (R : Spine) (h : List (List Int)) (hr : RdM w A c R h) (hn : h.length = n) (hw : WfM h) (hz : (n : Int) + (tot h : Nat) ≤ 1048576) :
    Calls Try.prog 28 #[.slice A n c] w (PostV w (.bool (validB h))) := by
  have HC := Lib.hid (l15Ok_c w A n c R h hr hn)
  clear hr hn
  go_enter Try.func28, Try.ntmps28
  go_wp2_with fail
  refine (HC.out).mono ?_
  rintro e w1 ⟨rfl, hb⟩
  go_wp2
  go_ret
  exact ⟨rfl, hb⟩
theorem implValidHadamard_c (w : World) (A : Option Addr) (n c : Nat) (R : Spine) (h : List (List Int)) (hr : RdM w A c R h) (hn : h.length = n) (hw : WfM h) (hz : (n : Int) + (tot h : Nat) ≤ 1048576) :
    Calls Try.prog 30 #[.slice A n c] w (PostV w (.bool (validB h))) := implValid_c w A n c R h hr hn (by omega)

def sumTo (r : List Int) : Nat → Int
  | 0 => 0
  | k + 1 => sumTo r k + nth r k
def excTo (h : List (List Int)) (n : Nat) : Nat → Int
  | 0 => 0
  | i + 1 => excTo h n i + sumTo (row h i) n
noncomputable def excV (h : List (List Int)) : Int := if validB h = true then excTo h h.length h.length else 0
noncomputable def excC (h : List (List Int)) : Int := if validB h = true then 0 else 1

set_option maxHeartbeats 1000000 in
theorem specExcessOf_c (w : World) (A : Option Addr) (n c : Nat) (R : Spine) (h : List (List Int)) (hr : RdM w A c R h) (hn : h.length = n) (hw : WfM h) (hz : (n : Int) + (tot h : Nat) ≤ 1048576) :
    Calls Try.prog 31 #[.slice A n c] w (PostV w (.tuple #[.int .i64 (excV h), .int .i64 (excC h)])) := by
  have hcall := l15Ok_c w A n c R h hr hn
  rcases hv : validB h with _ | _
  · rw [hv] at hcall
    have e1 : excV h = 0 := by simp [excV, hv]
    have e2 : excC h = 1 := by simp [excC, hv]
    rw [e1, e2]
    have HC := Lib.hid hcall
    clear hcall hv e1 e2 hr hn
    go_enter Try.func31, Try.ntmps31
    go_wp2_with fail
    refine (HC.out).mono ?_
    rintro e w1 ⟨rfl, hb⟩
    go_wp2
    go_ret2
    exact ⟨rfl, hb⟩
  · rw [hv] at hcall
    have e1 : excV h = excTo h n n := by simp [excV, hv, hn]
    have e2 : excC h = 0 := by simp [excC, hv]
    rw [e1, e2]
    obtain ⟨⟨hn1, hn2⟩, hrows, _⟩ := validB_iff.1 hv
    rw [hn] at hn1 hn2 hrows
    have HC := Lib.hid hcall
    have HR := Lib.hid hr
    have HN := Lib.hid hn
    have HRs := Lib.hid hrows
    clear hcall hv e1 e2 hr hn hrows
    go_enter Try.func31, Try.ntmps31
    go_wp2_with fail
    refine (HC.out).mono ?_
    rintro e w1 ⟨rfl, hB⟩
    go_wp2
    go_loop [4, 5] (fun s i => ∃ (k : Nat) (d : Int), k ≤ n ∧ i = .int .i64 k ∧ s = .int .i64 d ∧ Hid (d = excTo h n k) ∧ -(32 * (k : Int)) ≤ d ∧ d ≤ 32 * (k : Int)) (fun _ i => n - (intOf i).toNat)
    case atStart => exact ⟨0, 0, Nat.zero_le _, rfl, rfl, rfl, by simp, by simp⟩
    case round =>
      obtain ⟨k, d, hk, rfl, rfl, hd, hd1, hd2⟩ := hrel
      by_cases hlt : k < n
      · obtain ⟨b, off, A1, C1, rfl, hb, hc, hr1⟩ := HR.out.opened (k := k) (by rw [HN.out]; exact hlt)
        have hrow := HRs.out k hlt
        rw [hrow.1] at hc
        obtain ⟨b1, o1, rfl, hb1, hcs⟩ := hr1.opened (by rw [hrow.1]; omega)
        have hc' := (hB.cell (p := ⟨b, off + k, none⟩) hb).trans hc
        have HCS := Lib.hid hcs
        have HRow' := Lib.hid hrow
        clear hc hr1 hcs hrow
        go_wp2
        go_loop [4, 6] (fun s i => ∃ (q : Nat) (d' : Int), q ≤ n ∧ i = .int .i64 q ∧ s = .int .i64 d' ∧ Hid (d' = d + sumTo (row h k) q) ∧ -(32 * (k : Int)) - q ≤ d' ∧ d' ≤ 32 * (k : Int) + q) (fun _ i => n - (intOf i).toNat)
        case atStart => exact ⟨0, d, Nat.zero_le _, rfl, rfl, by simp [Hid, sumTo], by omega, by omega⟩
        case round =>
          obtain ⟨q, d', hq, rfl, rfl, hd', hd1', hd2'⟩ := hrel
          by_cases hlt2 : q < n
          · have hcq := (hB.cell (p := ⟨b1, o1 + q, none⟩) hb1).trans (HCS.out q (by rw [HRow'.out.1]; exact hlt2))
            have hv : -1 ≤ nth (row h k) q ∧ nth (row h k) q ≤ 1 := by have := HRow'.out.2 q hlt2; omega
            obtain ⟨hv1, hv2⟩ := hv
            have HD := Lib.hid (show d' + nth (row h k) q = d + sumTo (row h k) (q + 1) by rw [sumTo, hd'.out]; omega)
            go_wp2
            go_round
            case rel => exact ⟨q + 1, _, by omega, by go_num, rfl, HD, by omega, by omega⟩
            case measure => simp [intOf]; omega
          · obtain rfl : q = n := by omega
            have HD := Lib.hid (show d' = excTo h q (k + 1) by rw [excTo, ← hd.out, hd'.out])
            go_wp2
            go_round
            case rel => exact ⟨k + 1, d', by omega, by go_num, rfl, HD, by omega, by omega⟩
            case measure => simp [intOf]; omega
      · obtain rfl : k = n := by omega
        go_wp2
        go_ret2
        exact ⟨by rw [hd.out]; rfl, hB⟩

set_option maxHeartbeats 1000000 in
theorem implExcessOf_c (w : World) (A : Option Addr) (n c : Nat) (R : Spine) (h : List (List Int)) (hr : RdM w A c R h) (hn : h.length = n) (hw : WfM h) (hz : (n : Int) + (tot h : Nat) ≤ 1048576) :
    Calls Try.prog 32 #[.slice A n c] w (PostV w (.tuple #[.int .i64 (excV h), .int .i64 (excC h)])) := by
  have hcall := implValid_c w A n c R h hr hn (by omega)
  rcases hv : validB h with _ | _
  · rw [hv] at hcall
    have e1 : excV h = 0 := by simp [excV, hv]
    have e2 : excC h = 1 := by simp [excC, hv]
    rw [e1, e2]
    have HC := Lib.hid hcall
    clear hcall hv e1 e2 hr hn
    go_enter Try.func32, Try.ntmps32
    go_wp2_with fail
    refine (HC.out).mono ?_
    rintro e w1 ⟨rfl, hb⟩
    go_wp2
    go_ret2
    exact ⟨rfl, hb⟩
  · rw [hv] at hcall
    have e1 : excV h = excTo h n n := by simp [excV, hv, hn]
    have e2 : excC h = 0 := by simp [excC, hv]
    rw [e1, e2]
    obtain ⟨⟨hn1, hn2⟩, hrows, _⟩ := validB_iff.1 hv
    rw [hn] at hn1 hn2 hrows
    have HC := Lib.hid hcall
    have HR := Lib.hid hr
    have HN := Lib.hid hn
    have HRs := Lib.hid hrows
    clear hcall hv e1 e2 hr hn hrows
    go_enter Try.func32, Try.ntmps32
    go_wp2_with fail
    refine (HC.out).mono ?_
    rintro e w1 ⟨rfl, hB⟩
    go_wp2
    go_loop [4, 14] (fun s i => ∃ (k : Nat) (d : Int), k ≤ n ∧ i = .int .i64 k ∧ s = .int .i64 d ∧ Hid (d = excTo h n k) ∧ -(32 * (k : Int)) ≤ d ∧ d ≤ 32 * (k : Int)) (fun _ i => n - (intOf i).toNat)
    case atStart => exact ⟨0, 0, Nat.zero_le _, rfl, rfl, rfl, by simp, by simp⟩
    case round =>
      obtain ⟨k, d, hk, rfl, rfl, hd, hd1, hd2⟩ := hrel
      by_cases hlt : k < n
      · obtain ⟨b, off, A1, C1, rfl, hb, hc, hr1⟩ := HR.out.opened (k := k) (by rw [HN.out]; exact hlt)
        have hrow := HRs.out k hlt
        rw [hrow.1] at hc
        obtain ⟨b1, o1, rfl, hb1, hcs⟩ := hr1.opened (by rw [hrow.1]; omega)
        have hc' := (hB.cell (p := ⟨b, off + k, none⟩) hb).trans hc
        have HCS := Lib.hid hcs
        have HRow' := Lib.hid hrow
        clear hc hr1 hcs hrow
        go_wp2
        go_loop [4, 20] (fun s i => ∃ (q : Nat) (d' : Int), q ≤ n ∧ i = .int .i64 q ∧ s = .int .i64 d' ∧ Hid (d' = d + sumTo (row h k) q) ∧ -(32 * (k : Int)) - q ≤ d' ∧ d' ≤ 32 * (k : Int) + q) (fun _ i => n - (intOf i).toNat)
        case atStart => exact ⟨0, d, Nat.zero_le _, rfl, rfl, by simp [Hid, sumTo], by omega, by omega⟩
        case round =>
          obtain ⟨q, d', hq, rfl, rfl, hd', hd1', hd2'⟩ := hrel
          by_cases hlt2 : q < n
          · have hcq := (hB.cell (p := ⟨b1, o1 + q, none⟩) hb1).trans (HCS.out q (by rw [HRow'.out.1]; exact hlt2))
            have hv : -1 ≤ nth (row h k) q ∧ nth (row h k) q ≤ 1 := by have := HRow'.out.2 q hlt2; omega
            obtain ⟨hv1, hv2⟩ := hv
            have HD := Lib.hid (show d' + nth (row h k) q = d + sumTo (row h k) (q + 1) by rw [sumTo, hd'.out]; omega)
            go_wp2
            go_round
            case rel => exact ⟨q + 1, _, by omega, by go_num, rfl, HD, by omega, by omega⟩
            case measure => simp [intOf]; omega
          · obtain rfl : q = n := by omega
            have HD := Lib.hid (show d' = excTo h q (k + 1) by rw [excTo, ← hd.out, hd'.out])
            go_wp2
            go_round
            case rel => exact ⟨k + 1, d', by omega, by go_num, rfl, HD, by omega, by omega⟩
            case measure => simp [intOf]; omega
      · obtain rfl : k = n := by omega
        go_wp2
        go_ret2
        exact ⟨by rw [hd.out]; rfl, hB⟩
end Go.Proofs.Ytjoihaghoahnlaa
