/-
  Permutations: the plain law, l04Ok of the reference, ValidPermutation of the program. Conditions: those of each theorem.
-/
import Derived.Test.YthgbfgdnljgicaaSort
import Derived.Test.YthgbfgdnljgicaaClone
import Derived.Test.YthgbfgdnljgicaaIdn
import Derived.Test.YthgbfgdnljgicaaBools
import Derived.IntWalk
import Derived.Deep.RegionHeld3
import Derived.Deep.RegionLaw
namespace Go.Proofs.Ythgbfgdnljgicaa
open Go.RowKit
set_option linter.unusedVariables false
set_option linter.unusedSimpArgs false

theorem quiet_n {f : FuncId} {args : Array Value} {w : World} {n : Nat} {v : Value} (h : Calls Try.prog f args (w.drewN n) fun e w' => e = .returned v ∧ w.drewN n = w') :
    Calls Try.prog f args (w.drewN n) fun e w' => e = .returned v ∧ ∃ m, w' = w.drewN m :=
  h.mono fun _ _ ⟨he, hm⟩ => ⟨he, n, hm.symm⟩
theorem putL_len_mem {xs : List Int} {v : Int} (h : xs.Pairwise (· < ·)) (hv : v ∈ xs) : putL xs v = xs := by
  induction xs with
  | nil => simp at hv
  | cons x xs ih =>
    have h' := List.pairwise_cons.1 h
    rcases putL_cons x v xs with ⟨h1, e⟩ | ⟨h1, e⟩ | ⟨h1, e⟩
    · rw [e]
      rcases List.mem_cons.1 hv with rfl | hv
      · omega
      · rw [ih h'.2 hv]
    · rcases List.mem_cons.1 hv with rfl | hv
      · omega
      · have := h'.1 v hv; omega
    · exact e
theorem putsTo_inj {f : Nat → Int} {k : Nat} (h : (putsTo f k).length = k) : ∀ i j, i < j → j < k → f i ≠ f j := by
  induction k with
  | zero => intro i j _ hj; omega
  | succ k ih =>
    rw [putsTo] at h
    have h1 := putL_length (putsTo f k) (f k)
    have h2 := putsTo_len f k
    have hk : (putsTo f k).length = k := by omega
    intro i j hij hj e
    by_cases ej : j = k
    · subst ej
      have hm : f j ∈ putsTo f j := putsTo_mem.2 ⟨i, hij, e⟩
      rw [putL_len_mem (putsTo_rise f j) hm] at h
      omega
    · exact ih hk i j hij (by omega) e
theorem inj_nodup {xs : List Int} : (∀ i j, i < j → j < xs.length → nth xs i ≠ nth xs j) ↔ xs.Nodup := by
  unfold List.Nodup
  rw [List.pairwise_iff_getElem]
  constructor
  · intro h i j hi hj hij e
    exact h i j hij hj (by rw [nth_eq hi, nth_eq hj]; exact e)
  · intro h i j hij hj e
    exact h i j (by omega) hj hij (by rw [nth_eq (by omega), nth_eq hj] at e; exact e)
theorem rise_full {xs : List Int} {b : Nat} (h : xs.Pairwise (· < ·)) (hb : ∀ x ∈ xs, 0 ≤ x ∧ x < (b : Int)) (hl : xs.length = b) : xs = idL b := by
  refine rise_ext h ?_ fun z => ?_
  · unfold idL
    rw [List.pairwise_map]
    exact (List.pairwise_lt_range (n := b)).imp fun h => by omega
  · have hn : xs.Nodup := h.imp fun h => by omega
    have h2 := (nodup_full hn hb).1 hl
    constructor
    · intro hz
      have := hb z hz
      exact List.mem_map.2 ⟨z.toNat, List.mem_range.2 (by omega), by omega⟩
    · intro hz
      obtain ⟨i, hi, e⟩ := List.mem_map.1 hz
      rw [← e]
      exact h2 i (List.mem_range.1 hi)
theorem nth_range {xs : List Int} : (List.range xs.length).map (nth xs) = xs := by
  apply List.ext_getElem
  · simp
  · intro k h1 h2; simp [nth, h2]
/-- The program sorts; the reference counts. -/
theorem res_same {xs : List Int} {b : Nat} (hb : ∀ x ∈ xs, 0 ≤ x ∧ x < (b : Int)) : sortL xs = idL b ↔ xs.length = b ∧ (putsTo (nth xs) xs.length).length = xs.length := by
  constructor
  · intro h
    have hl : xs.length = b := by rw [← sortL_len, h, idL_len]
    refine ⟨hl, ?_⟩
    have hn : xs.Nodup := by
      refine (List.mergeSort_perm xs (fun x y => decide (x ≤ y))).nodup_iff.1 ?_
      show (sortL xs).Nodup
      rw [h]
      unfold idL List.Nodup
      rw [List.pairwise_map]
      exact (List.pairwise_lt_range (n := b)).imp fun h => by omega
    rw [putsTo_sort (inj_nodup.2 hn), nth_range, sortL_len]
  · rintro ⟨hl, h⟩
    have hn := inj_nodup.1 (putsTo_inj h)
    exact rise_full (sortL_rise hn) (fun x hx => hb x (sortL_mem.1 hx)) (by rw [sortL_len, hl])

theorem idL_mem {n : Nat} {z : Int} : z ∈ idL n ↔ 0 ≤ z ∧ z < (n : Int) := by
  unfold idL
  rw [List.mem_map]
  constructor
  · rintro ⟨k, hk, rfl⟩
    have := List.mem_range.1 hk
    omega
  · rintro ⟨h1, h2⟩
    exact ⟨z.toNat, List.mem_range.2 (by omega), by omega⟩
theorem RdI.take_ {w : World} {A : Option Addr} {c : Nat} {xs : List Int} (h : RdI w A c xs) (k : Nat) : RdI w A c (xs.take k) := by
  refine ⟨Nat.le_trans (by rw [List.length_take]; omega) h.le, h.cap, fun j hj => ?_⟩
  have hj2 : j < k ∧ j < xs.length := by rw [List.length_take] at hj; omega
  obtain ⟨b, off, e, hb, hc⟩ := h.at_ j hj2.2
  exact ⟨b, off, e, hb, by rw [hc]; simp [nth, hj2.1]⟩
/-- What the reference asks of each number. -/
def okAt (p : List Int) (i : Nat) : Prop := (0 ≤ nth p i ∧ nth p i ≤ (p.length : Int) - 1) ∧ hasB (p.take i) (nth p i) = false
def permB (p : List Int) : Bool := decide (p.length ≤ 32 ∧ sortL p = idL p.length)
theorem take_mem {p : List Int} {i : Nat} (hi : i < p.length) {z : Int} : z ∈ p.take i ↔ ∃ j, j < i ∧ nth p j = z := by
  rw [mem_nth]
  constructor
  · rintro ⟨j, hj, e⟩
    rw [List.length_take] at hj
    refine ⟨j, by omega, ?_⟩
    rw [← e]
    simp [nth, show j < i by omega]
  · rintro ⟨j, hj, e⟩
    refine ⟨j, by rw [List.length_take]; omega, ?_⟩
    rw [← e]
    simp [nth, hj]
theorem perm_facts {p : List Int} (h : sortL p = idL p.length) : (∀ x ∈ p, 0 ≤ x ∧ x < (p.length : Int)) ∧ (∀ i j, i < j → j < p.length → nth p i ≠ nth p j) := by
  have hb : ∀ x ∈ p, 0 ≤ x ∧ x < (p.length : Int) := fun x hx => idL_mem.1 (by rw [← h]; exact sortL_mem.2 hx)
  refine ⟨hb, ?_⟩
  have := (res_same hb).1 h
  exact putsTo_inj this.2
theorem perm_iff {p : List Int} : permB p = true ↔ p.length ≤ 32 ∧ ∀ i, i < p.length → okAt p i := by
  unfold permB
  rw [decide_eq_true_eq]
  constructor
  · rintro ⟨h1, h2⟩
    obtain ⟨hb, hi⟩ := perm_facts h2
    refine ⟨h1, fun i hip => ⟨?_, ?_⟩⟩
    · have := hb (nth p i) (mem_nth.2 ⟨i, hip, rfl⟩)
      omega
    · rw [hasB_false, take_mem hip]
      rintro ⟨j, hj, e⟩
      exact hi j i hj hip e
  · rintro ⟨h1, h2⟩
    refine ⟨h1, ?_⟩
    have hb : ∀ x ∈ p, 0 ≤ x ∧ x < (p.length : Int) := fun x hx => by
      obtain ⟨i, hi, e⟩ := mem_nth.1 hx
      have := (h2 i hi).1
      omega
    have hn : p.Nodup := inj_nodup.1 fun i j hij hj e => by
      have := hasB_false.1 (h2 j hj).2
      exact this ((take_mem hj).2 ⟨i, hij, e⟩)
    exact rise_full (sortL_rise hn) (fun x hx => hb x (sortL_mem.1 hx)) (sortL_len p)
theorem perm_no {p : List Int} {i : Nat} (hi : i < p.length) (h : ¬ okAt p i) : permB p = false := by
  rcases e : permB p with _ | _
  · rfl
  · exact absurd ((perm_iff.1 e).2 i hi) h
theorem idL_nth {n k : Nat} (hk : k < n) : nth (idL n) k = (k : Int) := by simp [nth, idL, hk]
theorem id_ext {xs : List Int} {n : Nat} (hl : xs.length = n) (h : ∀ k, k < n → nth xs k = (k : Int)) : xs = idL n := by
  apply List.ext_getElem
  · rw [hl, idL_len]
  · intro k h1 h2
    have := h k (by omega)
    rw [nth_eq h1] at this
    rw [this]
    simp [idL]
set_option maxHeartbeats 4000000 in
theorem l04Ok_c (w : World) (A : Option Addr) (n c : Nat) (p : List Int) (hr : RdI w A c p) (hn : p.length = n) :
    Calls Try.prog 44 #[.slice A n c] w (EndQ (.bool (permB p)) w) := by
  have hnc : n ≤ c := by have := hr.le; omega
  have hm : n ≤ 9223372036854775807 := by have h1 := hr.le; have h2 := hr.cap; unfold maxLen at h2; omega
  obtain ⟨T, hT⟩ : ∃ T, T = permB p := ⟨_, rfl⟩
  rw [← hT]
  have HT := Lib.hid hT
  have HR := Lib.hid hr
  have HN := Lib.hid hn
  clear hr hn hT
  by_cases h32 : n ≤ 32
  rotate_left
  · have hd : decide ((32 : Int) < (n : Int)) = true := by simp; omega
    have hd2 : (32 : Int) < (n : Int) := by omega
    have HF := Lib.hid (show T = false by rw [HT.out]; unfold permB; exact decide_eq_false (fun h => by have := HN.out; omega))
    clear h32
    go_enter Try.func44, Try.ntmps44
    go_wp2
    go_ret
    exact ⟨ret_b HF.out.symm, 0, rfl⟩
  · have hd : decide ((32 : Int) < (n : Int)) = false := by simp; omega
    go_enter Try.func44, Try.ntmps44
    go_wp2
    go_loopw [3] (fun v wr => ∃ k : Nat, k ≤ n ∧ v = .int .i64 k ∧ Hid (∀ i, i < k → okAt p i) ∧ Qt w wr) (fun v _ => n - (intOf v).toNat)
    case atStart => exact ⟨0, Nat.zero_le _, rfl, Lib.hid (fun i hi => absurd hi (by omega)), Qt.refl _⟩
    case round =>
      obtain ⟨k, hk, rfl, HOk, hq⟩ := hrel
      obtain ⟨m0, hm0⟩ := hq
      have HQ := Lib.hid hm0
      have HRw := Lib.hid (show RdI wr A c p by rw [hm0]; exact HR.out.drewN m0)
      clear hm0
      by_cases hlt : k < n
      · have hkx : k < p.length := by rw [HN.out]; exact hlt
        obtain ⟨b, off, e, hb, hc⟩ := HRw.out.at_ k hkx
        subst e
        have HTk := Lib.hid (show (p.take k).length = k by rw [List.length_take]; omega)
        have HIn := Lib.hid (fun W => in_c (nth p k) 0 ((n : Int) - 1) W)
        have HHas := Lib.hid (fun q => has_c (wr.drewN q) (some ⟨b, off, none⟩) k c (p.take k) (nth p k) ((HRw.out.take_ k).drewN q) HTk.out)
        have hk1 : (0 : Int) ≤ (k : Int) := by omega
        have hk2 : (k : Int) < (n : Int) := by omega
        have hk3 : (k : Int) ≤ (c : Int) := by omega
        clear hb
        rcases hin : inB (nth p k) 0 ((n : Int) - 1) with _ | _
        · have HF := Lib.hid (show T = false by
            rw [HT.out]
            exact perm_no hkx fun h => inB_false.1 hin (by rw [← HN.out]; exact h.1))
          rw [hin] at HIn
          clear hin
          have hw1 : IntKind.i64.wrap ((n : Int) - 1) = (n : Int) - 1 := IntWalk.i64_in _ (by omega)
          go_wp2
          go_quiet ((first | (go_at_call 53; exact quiet_n (HIn.out _)) | (go_at_call 54; exact quiet_n (HHas.out _))))
          clear hw1
          go_wp2
          go_ret
          exact ⟨ret_b HF.out.symm, m0 + nq, by rw [HQ.out, World.drewN_drewN]⟩
        · have HIb := Lib.hid (inB_true.1 hin)
          rw [hin] at HIn
          clear hin
          rcases hh : hasB (p.take k) (nth p k) with _ | _
          · rw [hh] at HHas
            have HOk' := Lib.hid (show ∀ i, i < k + 1 → okAt p i from fun i hi => by
              by_cases e : i = k
              · subst e; exact ⟨by rw [HN.out]; exact HIb.out, hh⟩
              · exact HOk.out i (by omega))
            clear hh
            have hw1 : IntKind.i64.wrap ((n : Int) - 1) = (n : Int) - 1 := IntWalk.i64_in _ (by omega)
            go_wp2
            go_quiet ((first | (go_at_call 53; exact quiet_n (HIn.out _)) | (go_at_call 54; exact quiet_n (HHas.out _))))
            clear hw1
            go_wp2
            go_roundw
            case rel => exact ⟨k + 1, by omega, by go_num, HOk', m0 + nq, by rw [HQ.out, World.drewN_drewN]⟩
            case measure => simp [intOf]; omega
          · rw [hh] at HHas
            have HF := Lib.hid (show T = false by
              rw [HT.out]
              exact perm_no hkx fun h => by have := h.2; rw [hh] at this; cases this)
            clear hh
            have hw1 : IntKind.i64.wrap ((n : Int) - 1) = (n : Int) - 1 := IntWalk.i64_in _ (by omega)
            go_wp2
            go_quiet ((first | (go_at_call 53; exact quiet_n (HIn.out _)) | (go_at_call 54; exact quiet_n (HHas.out _))))
            clear hw1
            go_wp2
            go_ret
            exact ⟨ret_b HF.out.symm, m0 + nq, by rw [HQ.out, World.drewN_drewN]⟩
      · obtain rfl : k = n := by omega
        have HF := Lib.hid (show T = true by rw [HT.out]; exact perm_iff.2 ⟨by rw [HN.out]; exact h32, fun i hi => HOk.out i (by rw [← HN.out]; exact hi)⟩)
        go_wp2
        go_ret
        exact ⟨ret_b HF.out.symm, m0, HQ.out⟩

set_option maxHeartbeats 4000000 in
theorem ValidPermutation_c (w : World) (A : Option Addr) (n c : Nat) (p : List Int) (hr : RdI w A c p) (hn : p.length = n) (hz : n ≤ 1048576) :
    Calls Try.prog 47 #[.slice A n c] w (PostV w (.bool (permB p))) := by
  have HCl := Lib.hid (Clone_n w A n c p hr hn hz)
  obtain ⟨T, hT⟩ : ∃ T, T = permB p := ⟨_, rfl⟩
  rw [← hT]
  have HT := Lib.hid hT
  have HN := Lib.hid hn
  have HSl := Lib.hid (show (sortL p).length = n by rw [sortL_len]; exact hn)
  clear hr hn hT
  go_enter Try.func47, Try.ntmps47
  go_wp2_with fail
  refine (HCl.out).mono ?_
  rintro e w2 ⟨⟨A2, n2, c2, rfl, hn2, ho2⟩, hb2⟩
  obtain rfl : n2 = n := hn2.symm.trans HN.out
  have HSo := Lib.hid (sort_c w2 ho2 hn2 hz)
  have HO2 := Lib.hid ho2
  have HB2 := Lib.hid hb2
  clear ho2 hb2 hn2
  go_wp2_with fail
  refine (HSo.out).mono ?_
  rintro e w4 ⟨rfl, ho4, hg4⟩
  have HB4 := Lib.hid (HB2.out.trans (below_blk HO2.out hg4 (Nat.le_refl _) HB2.out.size))
  have HO4 := Lib.hid ho4
  clear ho4 hg4
  go_wp2
  go_loopw [12] (fun v wr => ∃ k : Nat, k ≤ n2 ∧ v = .int .i64 k ∧ Hid (∀ i, i < k → nth (sortL p) i = (i : Int)) ∧ wr = w4) (fun v _ => n2 - (intOf v).toNat)
  case atStart => exact ⟨0, Nat.zero_le _, rfl, Lib.hid (fun i hi => absurd hi (by omega)), rfl⟩
  case round =>
    obtain ⟨k, hk, rfl, HEq, rfl⟩ := hrel
    by_cases hlt : k < n2
    · have hkx : k < (sortL p).length := by rw [HSl.out]; exact hlt
      obtain ⟨b, off, e, hb, hc⟩ := HO4.out.rd.at_ k hkx
      subst e
      by_cases he : nth (sortL p) k = (k : Int)
      · rw [he] at hc
        have HEq' := Lib.hid (show ∀ i, i < k + 1 → nth (sortL p) i = (i : Int) from fun i hi => by
          by_cases e : i = k
          · subst e; exact he
          · exact HEq.out i (by omega))
        clear he
        go_wp2
        go_roundw
        case rel => exact ⟨k + 1, by omega, by go_num, HEq', trivial⟩
        case measure => simp [intOf]; omega
      · have hd : (nth (sortL p) k == (k : Int)) = false := by simp [he]
        have HF := Lib.hid (show T = false by
          rw [HT.out]
          unfold permB
          refine decide_eq_false fun h => he ?_
          rw [h.2, idL_nth (by rw [HN.out]; exact hlt)])
        clear he
        generalize nth (sortL p) k = x at *
        go_wp2
        go_ret
        exact ⟨ret_b HF.out.symm, HB4.out⟩
    · obtain rfl : k = n2 := by omega
      have HF := Lib.hid (show T = decide (k ≤ 32) by
        rw [HT.out]
        unfold permB
        have h1 : sortL p = idL p.length := id_ext (by rw [sortL_len]) fun i hi => HEq.out i (by rw [← HN.out]; exact hi)
        by_cases h : k ≤ 32
        · rw [decide_eq_true h]; exact decide_eq_true ⟨by rw [HN.out]; exact h, h1⟩
        · rw [decide_eq_false h]; exact decide_eq_false fun h2 => h (by rw [← HN.out]; exact h2.1))
      by_cases h : k ≤ 32
      · rw [decide_eq_true h] at HF
        have hd : decide ((k : Int) ≤ 32) = true := by simp; omega
        go_wp2
        go_ret
        exact ⟨ret_b HF.out.symm, HB4.out⟩
      · rw [decide_eq_false h] at HF
        have hd : decide ((k : Int) ≤ 32) = false := by simp; omega
        go_wp2
        go_ret
        exact ⟨ret_b HF.out.symm, HB4.out⟩

end Go.Proofs.Ythgbfgdnljgicaa
