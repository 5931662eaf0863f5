/-
  UnrankPermutation(3, r) of the program. Conditions: those of the theorem.
-/
import Derived.Test.YtamklliaibfljaaUnq
namespace Go.Proofs.Ytamklliaibfljaa
open Go.RowKit
set_option linter.unusedVariables false
set_option linter.unusedSimpArgs false

set_option maxHeartbeats 8000000 in
set_option maxRecDepth 10000 in
theorem unrank3_c (w : World) (r : Nat) (hr : r < 6) : Calls Try.prog 50 #[.int .i64 3, .int .i64 (r : Int)] w (fun e w' => (∃ A n c, e = .returned (.tuple #[.slice A n c, .int .i64 0]) ∧ (un3 r).length = n ∧ OwnI w' w.heap.size A c (un3 r)) ∧ Below w.heap.size w w') := by
  have HF := Lib.hid (fun s (hs : s < 4) => un_facts r hr s hs)
  have HId := Lib.hid (identity_c w 3 (by omega))
  have HFa := Lib.hid (fun W n (hn : n ≤ 3) => factorial_c W n hn)
  have HF3 := Lib.hid (fun W => (show Calls Try.prog 78 #[.int .i64 3] W fun e w' => e = .returned (.int .i64 6) ∧ W = w' from factorial_c W 3 (by omega)))
  have HAll := Lib.hid (un_all r hr)
  have HW1 := Lib.hid (fun W => (show Calls Try.prog 59 #[.int .i64 3, .int .i64 0, .int .i64 12] W fun e w' => e = .returned (.bool true) ∧ W = w' from within_c 3 0 12 W))
  have HW2 := Lib.hid (fun W => (show Calls Try.prog 59 #[.int .i64 (r : Int), .int .i64 0, .int .i64 5] W fun e w' => e = .returned (.bool true) ∧ W = w' from by
    have := within_c (r : Int) 0 5 W
    rwa [show inB (r : Int) 0 5 = true by simp [inB]; omega] at this))
  go_enter Try.func50, Try.ntmps50
  go_wp2_with fail
  refine (HW1.out _).mono ?_
  rintro e w' ⟨rfl, rfl⟩
  go_wp2_with fail
  refine (HF3.out _).mono ?_
  rintro e w' ⟨rfl, rfl⟩
  go_wp2_with fail
  refine (HW2.out _).mono ?_
  rintro e w' ⟨rfl, rfl⟩
  go_wp2_with fail
  refine (HId.out).mono ?_
  rintro e w1 ⟨⟨A1, n1, c1, rfl, hn1, ho1⟩, hb1⟩
  obtain rfl : n1 = 3 := by rw [← hn1]; exact idL_len 3
  have HL0 := Lib.hid (show OwnI w1 w.heap.size A1 c1 (unL r 0) from ho1)
  have HO0 := Lib.hid (show OwnI w1 w.heap.size none 0 (unO r 0) from OwnI.nil_ w1 w.heap.size)
  have HB0 := Lib.hid hb1
  have HA0 := Lib.hid (show ∀ g, A1 = some ⟨g, 0, none⟩ → (none : Option Addr) ≠ some ⟨g, 0, none⟩ from fun g e e2 => by cases e2)
  clear hn1 ho1 hb1
  go_wp2
  go_loopw [1, 6, 7, 8] (fun v l o k wr => ∃ (s m : Nat) (A5 A6 : Option Addr) (c5 c6 : Nat), s + m = 3 ∧ v = .int .i64 ((unR r s : Nat) : Int) ∧ l = .slice A5 m c5 ∧ o = .slice A6 s c6 ∧ k = .int .i64 ((m : Int) - 1) ∧ Hid (OwnI wr w.heap.size A5 c5 (unL r s)) ∧ Hid (OwnI wr w.heap.size A6 c6 (unO r s)) ∧ Hid (∀ g, A5 = some ⟨g, 0, none⟩ → A6 ≠ some ⟨g, 0, none⟩) ∧ Hid (Below w.heap.size w wr)) (fun _ l _ _ _ => (match l with | .slice _ m _ => m | _ => 0))
  case atStart => exact ⟨0, 3, _, _, _, _, rfl, rfl, rfl, rfl, rfl, HL0, HO0, HA0, HB0⟩
  case round =>
    obtain ⟨s, m, A5, A6, c5, c6, hsm, rfl, rfl, rfl, rfl, HL, HO, HAp, HB⟩ := hrel
    have hsz := HB.out.size
    obtain ⟨hf1, hf2, hf3, hf4⟩ := HF.out s (by omega)
    by_cases hm0 : 0 < m
    · obtain ⟨m1, rfl⟩ : ∃ m1, m = m1 + 1 := ⟨m - 1, by omega⟩
      have hf1' : (unL r s).length = m1 + 1 := by omega
      have hfm := facN_le (n := m1) (by omega)
      have hq : unA r s = unR r s / facN m1 := by unfold unA; rw [show 2 - s = m1 by omega]
      have hrm : unR r (s + 1) = unR r s % facN m1 := by rw [unR_succ, show 2 - s = m1 by omega]
      have ha3 := hf3 (by omega)
      have HSl := Lib.hid (unL_succ r s)
      have HSo := Lib.hid (unO_succ r s)
      have HFm := Lib.hid (fun W => HFa.out W m1 (by omega))
      obtain ⟨f, hfd⟩ : ∃ f, f = facN m1 := ⟨_, rfl⟩
      rw [← hfd] at hfm hq hrm HFm
      obtain ⟨u, hu⟩ : ∃ u, u = unR r s := ⟨_, rfl⟩
      obtain ⟨v, hv⟩ : ∃ v, v = unR r (s + 1) := ⟨_, rfl⟩
      obtain ⟨a, ha⟩ : ∃ a, a = unA r s := ⟨_, rfl⟩
      rw [← hu] at hq hrm hf4 ⊢
      rw [← hv] at hrm
      rw [← ha] at hq ha3 HSl HSo
      have HV := Lib.hid hv
      have ht1 : (u : Int).tdiv (f : Int) = (a : Int) := by rw [hq, Int.natCast_ediv]; exact Int.tdiv_eq_ediv_of_nonneg (by omega)
      have ht2 : (u : Int) / (f : Int) = (a : Int) := by rw [hq, Int.natCast_ediv]
      have ht3 : (u : Int).tmod (f : Int) = (v : Int) := by rw [hrm, Int.natCast_emod]; exact Int.tmod_eq_emod_of_nonneg (by omega)
      have ht4 : (u : Int) % (f : Int) = (v : Int) := by rw [hrm, Int.natCast_emod]
      have hfz : ((f : Int) == 0) = false := by simp; omega
      have hfn : (f : Int) ≠ 0 := by omega
      have ha1 : a < m1 + 1 := by omega
      have hu6 : u ≤ 6 := by omega
      obtain ⟨g, rfl, hg1, hg2, hcx, _⟩ := HL.out.at_ (k := a) (by omega)
      have HLn := Lib.hid hf1'
      have HOn2 := Lib.hid hf2
      obtain ⟨x, hx⟩ : ∃ x, x = nth (unL r s) a := ⟨_, rfl⟩
      rw [← hx] at hcx HSo
      have hm1p : ((m1 + 1 : Nat) : Int) - 1 = (m1 : Int) := by omega
      have hm10 : (0 : Int) ≤ (m1 : Int) := by omega
      have ha0 : (0 : Int) ≤ (a : Int) := by omega
      have haM : (a : Int) < ((m1 + 1 : Nat) : Int) := by omega
      rw [hm1p]
      clear hfd hu hv ha hq hrm hf1 hf2 hf3 hx hfm hf1'
      go_wp2_with fail
      refine (HFm.out _).mono ?_
      rintro e w' ⟨rfl, rfl⟩
      go_wp2_with fail
      refine (HFm.out _).mono ?_
      rintro e w' ⟨rfl, rfl⟩
      have HOa := Lib.hid (HO.out.alloc (.cells #[.int .i64 x] 2))
      go_wp2_with (at_builtin; refine wpI_append rfl _ _ rfl w.heap.size _ _ _ (unO r s) x wr.heap.size rfl rfl HOn2.out HOa.out (World.cell?_alloc_at _ _ _ _ rfl) (by omega) (by simp; omega) ?_; intro A7 c7 w7 ho7 hg7 ha7)
      have HB7 := Lib.hid (show Below w.heap.size w w7 from (HB.out.alloc hsz (.cells #[.int .i64 x] 2)).trans (below_blk HOa.out hg7 (Nat.le_refl _) (by simp; omega)))
      have HO7 := Lib.hid (show OwnI w7 w.heap.size A7 c7 (unO r (s + 1)) from by rw [HSo.out]; exact ho7)
      have HL7 := Lib.hid (show OwnI w7 w.heap.size (some ⟨g, 0, none⟩) c5 (unL r s) from (HL.out.alloc (.cells #[.int .i64 x] 2)).grown hg7 (fun g' e h => by
        have h9 := HAp.out g' e
        rcases A6 with _ | ⟨b6, o6, p6⟩
        · simp [blk] at h
        · obtain ⟨g8, e8, _⟩ : ∃ g8, (some ⟨b6, o6, p6⟩ : Option Addr) = some ⟨g8, 0, none⟩ ∧ True := by
            rcases HO.out.form with ⟨e1, _⟩ | ⟨g8, e1, _⟩
            · cases e1
            · exact ⟨g8, e1, trivial⟩
          rw [e8, blk_some] at h
          injection h with h
          subst h
          exact h9 e8))
      have HA7 := Lib.hid (show A7 ≠ some ⟨g, 0, none⟩ from fun e => by
        rcases ha7 with h | h
        · rw [e, blk_some] at h
          rcases HO.out.form with ⟨e1, _⟩ | ⟨g8, e1, _⟩
          · rw [e1] at h; simp [blk] at h
          · rw [e1, blk_some] at h; injection h with h; subst h; exact HAp.out _ rfl e1
        · rw [e, blk_some] at h
          injection h with h
          simp at h
          omega)
      have hsz7 := HB7.out.size
      have hwa : IntKind.i64.wrap ((a : Int) + 1) = (a : Int) + 1 := IntWalk.i64_in _ (by omega)
      have HDel := Lib.hid (delete_c w7 a HL7.out HLn.out ha1)
      clear ho7 hg7 ha7 hcx
      go_wp2_with fail
      refine (HDel.out).mono ?_
      rintro e w8 ⟨rfl, ho8, hg8⟩
      have HL8 := Lib.hid (show OwnI w8 w.heap.size (some ⟨g, 0, none⟩) c5 (unL r (s + 1)) by rw [HSl.out]; exact ho8)
      have HB8 := Lib.hid (HB7.out.trans (below_blk HL7.out (by rw [blk_some]; exact hg8) (Nat.le_refl _) hsz7))
      have HO8 := Lib.hid (HO7.out.grown hg8 (fun g' e h => by
        injection h with h; subst h; exact HA7.out e))
      have HA8 := Lib.hid (show ∀ g', (some ⟨g, 0, none⟩ : Option Addr) = some ⟨g', 0, none⟩ → A7 ≠ some ⟨g', 0, none⟩ from fun g' e => by rw [← e]; exact HA7.out)
      clear ho8 hg8
      go_wp2
      go_roundw
      case rel => exact ⟨s + 1, m1, _, A7, c5, c7, by omega, by rw [HV.out], by simp, rfl, by go_num, HL8, HO8, HA8, HB8⟩
      case measure => simp <;> omega
    · obtain rfl : m = 0 := by omega
      obtain rfl : s = 3 := by omega
      have HF3 := Lib.hid (show OwnI wr w.heap.size A6 c6 (un3 r) from by rw [← HAll.out]; exact HO.out)
      have HN3 := Lib.hid (show (un3 r).length = 3 from by rw [← HAll.out]; exact hf2)
      clear hf1 hf2 hf3 hf4
      go_wp2
      go_ret2
      exact ⟨⟨_, _, _, rfl, HN3.out, HF3.out⟩, HB.out⟩
end Go.Proofs.Ytamklliaibfljaa
