/-
  slices.BinarySearchFunc with slices.Compare: it finds a list that is there. Conditions: those of each theorem.
-/
import Derived.Test.YtamklliaibfljaaValid
namespace Go.Proofs.Ytamklliaibfljaa
open Go.RowKit
set_option linter.unusedVariables false
set_option linter.unusedSimpArgs false

set_option maxHeartbeats 2000000 in
theorem bsearch_c (w : World) (A B : Option Addr) (n c m d : Nat) (R : Spine) (xss : List (List Int)) (ys : List Int) (hr : RdM w A c R xss) (hn : xss.length = n) (hz : n ≤ 1048576) (hs : RdI w B d ys) (hm : ys.length = m) (t : Nat) (ht : t < n)
    (h1 : ∀ k, k < t → cmpL (row xss k) ys < 0) (h2 : ∀ k, t ≤ k → k < n → 0 ≤ cmpL (row xss k) ys) (h3 : cmpL (row xss t) ys = 0) :
    Calls Try.prog 32 #[.slice A n c, .slice B m d, .func (.func 33) #[] #[]] w (fun e w' => e = .returned (.tuple #[.int .i64 (t : Int), .bool true]) ∧ w = w') := by
  have HCM := Lib.hid (fun (k : Nat) (hk : k < n) => Compare_c w (R k).1 B (row xss k).length m (R k).2 d (row xss k) ys (hr.rows k (by omega)) rfl hs hm)
  have HR := Lib.hid (fun (k : Nat) (hk : k < n) => hr.at_ k (by omega))
  have H1 := Lib.hid h1
  have H2 := Lib.hid h2
  have H3 := Lib.hid h3
  have HBd := Lib.hid (fun k => cmpL_bd (row xss k) ys)
  clear hr hn hs hm h1 h2 h3
  go_enter Try.func32, Try.ntmps32
  go_wp2
  go_loop [9, 10] (fun a b => ∃ lo hi : Nat, a = .int .i64 lo ∧ b = .int .i64 hi ∧ lo ≤ t ∧ t ≤ hi ∧ hi ≤ n) (fun a b => (intOf b).toNat - (intOf a).toNat)
  case atStart => exact ⟨0, n, rfl, rfl, Nat.zero_le _, by omega, Nat.le_refl _⟩
  case round =>
    obtain ⟨lo, hi, rfl, rfl, ha, hb, hc⟩ := hrel
    by_cases hlt : lo < hi
    · obtain ⟨b, off, e, hb0, hcl⟩ := HR.out ((lo + hi) / 2) (by omega)
      have hC := HCM.out ((lo + hi) / 2) (by omega)
      have hA1 := H1.out ((lo + hi) / 2)
      have hA2 := H2.out ((lo + hi) / 2)
      have hBd := HBd.out ((lo + hi) / 2)
      subst e
      generalize cmpL (row xss ((lo + hi) / 2)) ys = q at *
      have HC := Lib.hid hC
      have HA1 := Lib.hid hA1
      have HA2 := Lib.hid hA2
      clear hC hA1 hA2
      by_cases hq : q < 0
      · go_wp2_with fail
        refine (HC.out).mono ?_
        rintro e w' ⟨rfl, rfl⟩
        go_wp2
        go_round
        case rel =>
          refine ⟨(lo + hi) / 2 + 1, hi, by go_num, rfl, ?_, hb, hc⟩
          rcases Nat.lt_or_ge ((lo + hi) / 2) t with h | h
          · omega
          · have := HA2.out h (by omega); omega
        case measure => simp [intOf]; omega
      · go_wp2_with fail
        refine (HC.out).mono ?_
        rintro e w' ⟨rfl, rfl⟩
        go_wp2
        go_round
        case rel =>
          refine ⟨lo, (lo + hi) / 2, rfl, by go_num, ha, ?_, by omega⟩
          rcases Nat.lt_or_ge ((lo + hi) / 2) t with h | h
          · have := HA1.out h; omega
          · exact h
        case measure => simp [intOf]; omega
    · obtain rfl : lo = t := by omega
      obtain rfl : hi = lo := by omega
      obtain ⟨b, off, e, hb0, hcl⟩ := HR.out hi ht
      have hC := HCM.out hi ht
      rw [H3.out] at hC
      have HC := Lib.hid hC
      subst e
      clear hC
      go_wp2_with fail
      refine (HC.out).mono ?_
      rintro e w' ⟨rfl, rfl⟩
      go_wp2
      go_ret2
      exact ⟨rfl, rfl⟩
end Go.Proofs.Ytamklliaibfljaa
