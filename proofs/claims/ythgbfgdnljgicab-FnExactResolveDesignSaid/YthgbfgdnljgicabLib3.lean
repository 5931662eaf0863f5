/-
  The laws' helpers that bound and copy: szInt64S, szInt64SS, toInt64S, toInt64SS. Conditions: those of each theorem.
-/
import Derived.Test.YthgbfgdnljgicabLib2
namespace Go.Proofs.Ythgbfgdnljgicab
open Go.RowKit
set_option linter.unusedVariables false
set_option linter.unusedSimpArgs false

set_option maxHeartbeats 400000 in
theorem szS_in (w : World) (A : Option Addr) (n c : Nat) (left : Int) (h0 : (n : Int) ≤ left) (h1 : left ≤ 1048576) :
    Calls Try.prog 25 #[.slice A n c, .int .i64 left] w fun e w' => e = .returned (.int .i64 (left - n)) ∧ w = w' := by
  go_enter Try.func25, Try.ntmps25
  go_wp2
  go_ret
  exact ⟨rfl, rfl⟩
set_option maxHeartbeats 400000 in
theorem szS_out (w : World) (A : Option Addr) (n c : Nat) (left : Int) (h0 : left < (n : Int)) (h1 : 0 ≤ left) (hn : n ≤ 9223372036854775807) :
    Calls Try.prog 25 #[.slice A n c, .int .i64 left] w fun e w' => e = .returned (.int .i64 (-1)) ∧ w = w' := by
  go_enter Try.func25, Try.ntmps25
  go_wp2
  go_ret
  exact ⟨rfl, rfl⟩

/-- Rows k < n: their lengths. -/
def AtL (w : World) (A : Option Addr) (n : Nat) (L : Nat → Nat) : Prop :=
  ∀ k, k < n → ∃ b off B C, A = some ⟨b, off, none⟩ ∧ w.cell? ⟨b, off + k, none⟩ = some (.slice B (L k) C) ∧ L k ≤ 9223372036854775807

theorem RdM.atL {w : World} {A : Option Addr} {c : Nat} {R : Spine} {xss : List (List Int)} (h : RdM w A c R xss) : AtL w A xss.length (fun k => (row xss k).length) := fun k hk => by
  obtain ⟨b, off, e, _, hc⟩ := h.at_ k hk
  exact ⟨b, off, _, _, e, hc, by show (row xss k).length ≤ _; have h1 := (h.rows k hk).le; have h2 := (h.rows k hk).cap; unfold maxLen at h2; omega⟩

set_option maxHeartbeats 400000 in
theorem szSS_in (w : World) (A : Option Addr) (n c : Nat) (xss : List (List Int)) (left : Int) (hA : AtL w A n (fun k => (row xss k).length)) (hn : xss.length = n) (h0 : (n : Int) + (tot xss : Nat) ≤ left) (h1 : left ≤ 1048576) :
    Calls Try.prog 13 #[.slice A n c, .int .i64 left] w fun e w' => e = .returned (.int .i64 (left - n - (tot xss : Nat))) ∧ w = w' := by
  have HA := Lib.hid hA
  have HN := Lib.hid hn
  clear hA hn
  go_enter Try.func13, Try.ntmps13
  go_wp2
  go_loop [1, 5] (fun q i => ∃ (k : Nat) (t : Int), k ≤ n ∧ i = .int .i64 k ∧ q = .int .i64 t ∧ Hid (t = left - n - (tot (xss.take k) : Nat))) (fun _ i => n - (intOf i).toNat)
  case atStart => exact ⟨0, left - n, Nat.zero_le _, rfl, rfl, by simp [Hid, tot]⟩
  case round =>
    obtain ⟨k, t, hk, rfl, rfl, ht⟩ := hrel
    by_cases hlt : k < n
    · have hkx : k < xss.length := by rw [HN.out]; exact hlt
      have hrt := row_le_tot hkx
      obtain ⟨b, off, B, C, rfl, hc, hl⟩ := HA.out k hlt
      have ht0 : ((row xss k).length : Int) ≤ t := by rw [ht.out]; omega
      have ht1 : t ≤ 1048576 := by rw [ht.out]; omega
      have ht2 : 0 ≤ t - ((row xss k).length : Int) := by omega
      go_wp2_with (go_at_call 25; refine (szS_in _ _ _ _ _ ht0 ht1).mono ?_; rintro e w1 ⟨rfl, rfl⟩)
      go_round
      case rel =>
        refine ⟨k + 1, t - ((row xss k).length : Int), by omega, by go_num, rfl, ?_⟩
        show _ = _
        rw [ht.out, tot_take_succ hkx]; omega
      case measure => simp [intOf]; omega
    · obtain rfl : k = n := by omega
      have e : t = left - k - (tot xss : Nat) := by rw [ht.out, List.take_of_length_le (by rw [HN.out]; exact Nat.le_refl _)]
      have HE := Lib.hid e
      clear e
      go_wp2
      go_ret
      exact ⟨ret_i HE.out, rfl⟩

set_option maxHeartbeats 400000 in
theorem szSS_out (w : World) (A : Option Addr) (n c : Nat) (xss : List (List Int)) (left : Int) (hA : AtL w A n (fun k => (row xss k).length)) (hn : xss.length = n) (h0 : left < (n : Int) + (tot xss : Nat)) (h1 : 0 ≤ left) (h2 : left ≤ 1048576) (hm : n ≤ 9223372036854775807) :
    Calls Try.prog 13 #[.slice A n c, .int .i64 left] w fun e w' => e = .returned (.int .i64 (-1)) ∧ w = w' := by
  have HA := Lib.hid hA
  have HN := Lib.hid hn
  clear hA hn
  by_cases hl0 : left < n
  · go_enter Try.func13, Try.ntmps13
    go_wp2
    go_ret
    exact ⟨rfl, rfl⟩
  have hl1 : (n : Int) ≤ left := by omega
  clear hl0
  go_enter Try.func13, Try.ntmps13
  go_wp2
  go_loop [1, 5] (fun q i => ∃ (k : Nat) (t : Int), k ≤ n ∧ i = .int .i64 k ∧ q = .int .i64 t ∧ Hid (t = left - n - (tot (xss.take k) : Nat)) ∧ 0 ≤ t ∧ t ≤ 1048576) (fun _ i => n - (intOf i).toNat)
  case atStart => exact ⟨0, left - n, Nat.zero_le _, rfl, rfl, by simp [Hid, tot], by omega, by omega⟩
  case round =>
    obtain ⟨k, t, hk, rfl, rfl, ht, ht0, ht1⟩ := hrel
    by_cases hlt : k < n
    · have hkx : k < xss.length := by rw [HN.out]; exact hlt
      obtain ⟨b, off, B, C, rfl, hc, hl⟩ := HA.out k hlt
      by_cases hfit : ((row xss k).length : Int) ≤ t
      · have ht2 : 0 ≤ t - ((row xss k).length : Int) := by omega
        go_wp2_with (go_at_call 25; refine (szS_in _ _ _ _ _ hfit ht1).mono ?_; rintro e w1 ⟨rfl, rfl⟩)
        go_round
        case rel =>
          refine ⟨k + 1, t - ((row xss k).length : Int), by omega, by go_num, rfl, ?_, by omega, by omega⟩
          show _ = _
          rw [ht.out, tot_take_succ hkx]; omega
        case measure => simp [intOf]; omega
      · have hf' : t < ((row xss k).length : Int) := by omega
        clear hfit
        go_wp2_with (go_at_call 25; refine (szS_out _ _ _ _ _ hf' ht0 hl).mono ?_; rintro e w1 ⟨rfl, rfl⟩)
        go_ret
        exact ⟨rfl, rfl⟩
    · exfalso
      obtain rfl : k = n := by omega
      have e : t = left - k - (tot xss : Nat) := by rw [ht.out, List.take_of_length_le (by rw [HN.out]; exact Nat.le_refl _)]
      omega

theorem take_set_nth {xs : List Int} {k n : Nat} (h : k < xs.length) (hn : xs.length = n) :
    (xs.take k ++ List.replicate (n - k) 0).set k (nth xs k) = xs.take (k + 1) ++ List.replicate (n - (k + 1)) 0 := by
  have hk : (xs.take k).length = k := by simp; omega
  rw [List.set_append_right _ _ (by omega), hk, Nat.sub_self, show n - k = (n - (k + 1)) + 1 from by omega, List.replicate_succ, List.set_cons_zero, take_nth h, List.append_assoc]
  rfl
theorem take_set_row {xs : List (List Int)} {k n : Nat} (h : k < xs.length) (hn : xs.length = n) :
    (xs.take k ++ List.replicate (n - k) []).set k (row xs k) = xs.take (k + 1) ++ List.replicate (n - (k + 1)) [] := by
  have hk : (xs.take k).length = k := by simp; omega
  rw [List.set_append_right _ _ (by omega), hk, Nat.sub_self, show n - k = (n - (k + 1)) + 1 from by omega, List.replicate_succ, List.set_cons_zero, take_row h, List.append_assoc]
  rfl

set_option maxHeartbeats 400000 in
/-- toInt64S copies the slice into new memory. -/
theorem toS (w : World) (A : Option Addr) (n c : Nat) (xs : List Int) (hx : RdI w A c xs) (hn : xs.length = n) (hb : n ≤ 17592186044416) :
    Calls Try.prog 34 #[.slice A n c] w fun e w' => (∃ A', e = .returned (.slice A' n n) ∧ OwnI w' w.heap.size A' n xs) ∧ Below w.heap.size w w' := by
  have HX := Lib.hid hx
  have HN := Lib.hid hn
  clear hx hn
  have hmk := fun W : World => run_make_row' (P := Try.prog) 43 2 (.int .i64 0) 8 Try.underlying43 infoI rfl .i64 .i64 n (by omega) (by omega) W
  have h0 := OwnI.made w n (by unfold maxLen; omega) (Nat.le_refl w.heap.size)
  have H0 := Lib.hid h0
  clear h0
  go_enter Try.func34, Try.ntmps34
  go_wp2
  go_loopw [4] (fun i wr => ∃ k : Nat, k ≤ n ∧ i = .int .i64 k ∧ OwnI wr w.heap.size (some ⟨w.heap.size, 0, none⟩) n (xs.take k ++ List.replicate (n - k) 0) ∧ Below w.heap.size w wr) (fun i _ => n - (intOf i).toNat)
  case atStart => exact ⟨0, Nat.zero_le _, rfl, by simpa using H0.out, (Below.refl _ _).alloc (Nat.le_refl _) _⟩
  case round =>
    obtain ⟨k, hk, rfl, ho, hB⟩ := hrel
    by_cases hlt : k < n
    · have hkx : k < xs.length := by rw [HN.out]; exact hlt
      obtain ⟨b, off, rfl, hbs, hc⟩ := (HX.out).at_ k hkx
      have hcr : wr.cell? ⟨b, off + k, none⟩ = some (.int .i64 (nth xs k)) := (hB.cell (p := ⟨b, off + k, none⟩) hbs).trans hc
      have hlen : (xs.take k ++ List.replicate (n - k) (0 : Int)).length = n := by simp; rw [HN.out]; omega
      obtain ⟨g, e, hlg, hgs, hc1, hf1⟩ := ho.at_ (k := k) (by rw [hlen]; exact hlt)
      injection e with e
      injection e with e
      subst e
      have hs := ho.stored k (nth xs k)
      rw [take_set_nth hkx HN.out] at hs
      have HS := Lib.hid hs
      have HB := Lib.hid (hB.setCell (p := ⟨w.heap.size, k, none⟩) (Nat.le_refl _) (.int .i64 (nth xs k)))
      clear hs ho hlen hc hmk
      go_wp2
      go_roundw
      case rel => exact ⟨k + 1, by omega, by go_num, HS.out, HB.out⟩
      case measure => simp [intOf]; omega
    · obtain rfl : k = n := by omega
      have ho' : OwnI wr w.heap.size (some ⟨w.heap.size, 0, none⟩) k xs := by
        have e : xs.take k ++ List.replicate (k - k) 0 = xs := by rw [List.take_of_length_le (by rw [HN.out]; exact Nat.le_refl _)]; simp
        rwa [e] at ho
      have HO := Lib.hid ho'
      clear ho ho' hmk
      go_wp2
      go_ret
      exact ⟨⟨_, rfl, HO.out⟩, hB⟩

theorem nth_rep {α : Type} {xs : List α} {k n : Nat} {d : α} (hk : k ≤ xs.length) (hn : xs.length = n) : (xs.take k ++ List.replicate (n - k) d).length = n := by simp; omega

set_option maxHeartbeats 800000 in
/-- toInt64SS copies the slice and its rows into new memory. -/
theorem toSS (w : World) (A : Option Addr) (n c : Nat) (R : Spine) (xss : List (List Int)) (hx : RdM w A c R xss) (hn : xss.length = n) (hb : n ≤ 4398046511104) (hb2 : ∀ k, k < n → (row xss k).length ≤ 17592186044416) :
    Calls Try.prog 17 #[.slice A n c] w fun e w' => (∃ A' R', e = .returned (.slice A' n n) ∧ OwnM w' w.heap.size A' n R' xss) ∧ Below w.heap.size w w' := by
  have HX := Lib.hid hx
  have HN := Lib.hid hn
  have HB2 := Lib.hid hb2
  clear hx hn hb2
  have hmk := fun W : World => run_make_row' (P := Try.prog) 22 43 (.slice none 0 0) 24 Try.underlying22 infoS rfl .i64 .i64 n (by omega) (by omega) W
  have h0 := OwnM.made w n (by unfold maxLen; omega) (Nat.le_refl w.heap.size)
  have H0 := Lib.hid h0
  clear h0
  go_enter Try.func17, Try.ntmps17
  go_wp2
  go_loopw [4] (fun i wr => ∃ k : Nat, k ≤ n ∧ i = .int .i64 k ∧ (∃ R', OwnM wr w.heap.size (some ⟨w.heap.size, 0, none⟩) n R' (xss.take k ++ List.replicate (n - k) []) ∧ (∀ j, k ≤ j → (R' j).1 = none)) ∧ Below w.heap.size w wr) (fun i _ => n - (intOf i).toNat)
  case atStart => exact ⟨0, Nat.zero_le _, rfl, ⟨_, by simpa using H0.out, fun _ _ => rfl⟩, (Below.refl _ _).alloc (Nat.le_refl _) _⟩
  case round =>
    obtain ⟨k, hk, rfl, ⟨R', ho, hR'⟩, hB⟩ := hrel
    by_cases hlt : k < n
    · have hkx : k < xss.length := by rw [HN.out]; exact hlt
      obtain ⟨b, off, rfl, hbs, hc⟩ := (HX.out).at_ k hkx
      have hcr : wr.cell? ⟨b, off + k, none⟩ = some (.slice (R k).1 (row xss k).length (R k).2) := (hB.cell (p := ⟨b, off + k, none⟩) hbs).trans hc
      have hlen : (xss.take k ++ List.replicate (n - k) []).length = n := nth_rep (by omega) HN.out
      have hcall := toS wr (R k).1 (row xss k).length (R k).2 (row xss k) ((HX.out.rows k hkx).keep hB.size fun _ hp => hB.cell hp) rfl (HB2.out k hlt)
      have HC := Lib.hid hcall
      have HO := Lib.hid ho
      have HL := Lib.hid hlen
      have HR := Lib.hid hR'
      clear ho hlen hc hmk hcall hR'
      go_wp2_with fail
      refine (HC.out).mono ?_
      rintro e w1 ⟨⟨A1, rfl, ho1⟩, hb1⟩
      have hz : w.heap.size ≤ wr.heap.size := hB.size
      have ho2 := HO.out.below hb1
      obtain ⟨g, e, hlg, hgs, hc1, hf1⟩ := ho2.at_ (k := k) (by rw [HL.out]; exact hlt)
      injection e with e
      injection e with e
      subst e
      have hs := ho2.set_row (i := k) (by rw [HL.out]; exact hlt) (ho1.lower hz) (fun j hj hjk g e => by
        have h1 := (HO.out.rows j hj).lt e
        intro e2
        have h2 := ho1.lt e2
        omega)
      rw [take_set_row hkx HN.out] at hs
      have HS := Lib.hid hs
      have HB := Lib.hid ((hB.trans (hb1.mono hz)).setCell (p := ⟨w.heap.size, k, none⟩) (Nat.le_refl _) (.slice A1 (row xss k).length (row xss k).length))
      clear hs ho2 ho1 hcr
      go_wp2
      go_roundw
      case rel => exact ⟨k + 1, by omega, by go_num, ⟨_, HS.out, fun j hj => by simp only [putS]; rw [if_neg (by omega)]; exact HR.out j (by omega)⟩, HB.out⟩
      case measure => simp [intOf]; omega
    · obtain rfl : k = n := by omega
      have ho' : OwnM wr w.heap.size (some ⟨w.heap.size, 0, none⟩) k R' xss := by
        have e : xss.take k ++ List.replicate (k - k) [] = xss := by rw [List.take_of_length_le (by rw [HN.out]; exact Nat.le_refl _)]; simp
        rwa [e] at ho
      have HO := Lib.hid ho'
      clear ho ho' hmk hR'
      go_wp2
      go_ret
      exact ⟨⟨_, R', rfl, HO.out⟩, hB⟩
end Go.Proofs.Ythgbfgdnljgicab
