/-
  Difference tables: l13Set, l13Ok, l13Table of the reference; areBases, differenceTable of the program. Conditions: those of each theorem.
-/
import Derived.Test.YtpgmjfgjlddhgaaSet
namespace Go.Proofs.Ytpgmjfgjlddhgaa
open Go.RowKit
set_option linter.unusedVariables false
set_option linter.unusedSimpArgs false

theorem RdI.open0 {w : World} {A : Option Addr} {c : Nat} {xs : List Int} (h : RdI w A c xs) (hn : 0 < xs.length) :
    ∃ b off, A = some ⟨b, off, none⟩ ∧ b < w.heap.size ∧ ∀ k, k < xs.length → w.cell? ⟨b, off + k, none⟩ = some (.int .i64 (nth xs k)) := by
  obtain ⟨b, off, rfl, hb, _⟩ := h.at_ 0 hn
  refine ⟨b, off, rfl, hb, fun k hk => ?_⟩
  obtain ⟨b', off', e, _, hc⟩ := h.at_ k hk
  injection e with e
  injection e with e1 e2
  subst e1 e2
  exact hc

def incAt (t : List Int) (i : Nat) : List Int := t.set i (nth t i + 1)
def difAt (n : Nat) (x y : Int) : Nat := ((x - y + (n : Int)) % (n : Int)).toNat
def incB (n : Nat) (s : List Int) (a : Nat) : Nat → List Int → List Int
  | 0, t => t
  | b + 1, t => if a = b then incB n s a b t else incAt (incB n s a b t) (difAt n (nth s a) (nth s b))
def incA (n : Nat) (s : List Int) : Nat → List Int → List Int
  | 0, t => t
  | a + 1, t => incB n s a s.length (incA n s a t)
def incS (n : Nat) (sets : List (List Int)) : Nat → List Int
  | 0 => List.replicate n 0
  | i + 1 => incA n (row sets i) (row sets i).length (incS n sets i)

/-- All entries from 0 to C. -/
def Upto (t : List Int) (C : Int) : Prop := ∀ j, 0 ≤ nth t j ∧ nth t j ≤ C
theorem nth_set (t : List Int) (i j : Nat) (v : Int) : nth (t.set i v) j = if i = j ∧ j < t.length then v else nth t j := by
  unfold nth
  rw [List.getElem?_set]
  by_cases e : i = j
  · subst e
    by_cases h : i < t.length
    · simp [h]
    · simp [h]
  · simp [e]
theorem Upto.inc {t : List Int} {C : Int} (h : Upto t C) (i : Nat) : Upto (incAt t i) (C + 1) := fun j => by
  have h1 := h j
  have h2 := h i
  unfold incAt
  rw [nth_set]
  split <;> omega
theorem Upto.more {t : List Int} {C D : Int} (h : Upto t C) (hd : C ≤ D) : Upto t D := fun j => by have := h j; omega
theorem Upto.b {n : Nat} {s : List Int} {a : Nat} {t : List Int} {C : Int} (h : Upto t C) : ∀ b : Nat, Upto (incB n s a b t) (C + b)
  | 0 => by simpa [incB] using h
  | b + 1 => by
    have ih := Upto.b (n := n) (s := s) (a := a) h b
    rw [incB]
    split
    · exact ih.more (by omega)
    · exact (ih.inc _).more (by omega)
theorem Upto.a {n : Nat} {s : List Int} {t : List Int} {C : Int} (h : Upto t C) (hs : s.length ≤ 32) : ∀ a : Nat, Upto (incA n s a t) (C + 32 * a)
  | 0 => by simpa [incA] using h
  | a + 1 => by
    have ih := Upto.a (n := n) (s := s) h hs a
    exact (Upto.b (n := n) (s := s) (a := a) ih s.length).more (by omega)
theorem Upto.s {n : Nat} {sets : List (List Int)} (hs : ∀ i, i < sets.length → (row sets i).length ≤ 32) : ∀ i : Nat, i ≤ sets.length → Upto (incS n sets i) (1024 * i)
  | 0, _ => fun j => by simp only [incS, nth, List.getElem?_replicate]; split <;> simp
  | i + 1, hi => by
    have ih := Upto.s (n := n) hs i (by omega)
    have h1 := hs i (by omega)
    exact (Upto.a (n := n) (s := row sets i) ih h1 (row sets i).length).more (by omega)
theorem length_incB (n : Nat) (s : List Int) (a : Nat) (t : List Int) : ∀ b, (incB n s a b t).length = t.length
  | 0 => rfl
  | b + 1 => by
    rw [incB]
    split
    · exact length_incB n s a t b
    · rw [incAt, List.length_set]; exact length_incB n s a t b
theorem length_incA (n : Nat) (s : List Int) (t : List Int) : ∀ a, (incA n s a t).length = t.length
  | 0 => rfl
  | a + 1 => by rw [incA, length_incB, length_incA n s t a]
theorem length_incS (n : Nat) (sets : List (List Int)) : ∀ i, (incS n sets i).length = n
  | 0 => by simp [incS]
  | i + 1 => by rw [incS, length_incA, length_incS n sets i]

theorem rise_ge {hi : Int} {xs : List Int} {k : Nat} (h : RiseTo 0 hi xs k) : ∀ j, j < k → (j : Int) ≤ nth xs j
  | 0, hj => by have := (h 0 hj).1.1; omega
  | j + 1, hj => by
    have h1 := (h (j + 1) hj).2 (by omega)
    have h2 := rise_ge h j (by omega)
    rw [Nat.add_sub_cancel] at h1
    omega
theorem rise_len {n : Int} {xs : List Int} (h : RiseTo 0 (n - 1) xs xs.length) (hn : 0 ≤ n) : (xs.length : Int) ≤ n := by
  rcases Nat.eq_zero_or_pos xs.length with h0 | h0
  · omega
  · have h1 := rise_ge h (xs.length - 1) (by omega)
    have h2 := (h (xs.length - 1) (by omega)).1.2
    omega
theorem rise_lt {lo hi : Int} {xs : List Int} {k : Nat} (h : RiseTo lo hi xs k) {i : Nat} : ∀ j, j < k → i < j → nth xs i < nth xs j
  | 0, _, hij => absurd hij (by omega)
  | j + 1, hj, hij => by
    have h1 := (h (j + 1) hj).2 (by omega)
    rw [Nat.add_sub_cancel] at h1
    by_cases e : i = j
    · subst e; exact h1
    · have := rise_lt h j (by omega) (i := i) (by omega)
      omega
theorem rise_ne {lo hi : Int} {xs : List Int} {k : Nat} (h : RiseTo lo hi xs k) {i j : Nat} (hi' : i < k) (hj : j < k) (hne : i ≠ j) : nth xs i ≠ nth xs j := by
  rcases Nat.lt_or_gt_of_ne hne with hlt | hlt
  · have := rise_lt h j hj hlt; omega
  · have := rise_lt h i hi' hlt; omega
theorem dif_facts {n : Nat} {x y : Int} (hn : 1 ≤ n) (hn2 : n ≤ 32) (hx : 0 ≤ x ∧ x ≤ (n : Int) - 1) (hy : 0 ≤ y ∧ y ≤ (n : Int) - 1) :
    (x - y + (n : Int)) % (n : Int) = (difAt n x y : Int) ∧ difAt n x y < n ∧ 0 ≤ x - y + (n : Int) ∧ x - y + (n : Int) ≤ 64 := by
  have h0 : 0 ≤ (x - y + (n : Int)) % (n : Int) := Int.emod_nonneg _ (by omega)
  have h1 : (x - y + (n : Int)) % (n : Int) < (n : Int) := Int.emod_lt_of_pos _ (by omega)
  refine ⟨by unfold difAt; rw [Int.toNat_of_nonneg h0], by unfold difAt; omega, by omega, by omega⟩

/-- What base blocks have to be. -/
def SetsOk (n : Nat) (sets : List (List Int)) : Prop := 1 ≤ n ∧ n ≤ 32 ∧ ∀ i, i < sets.length → RiseTo 0 ((n : Int) - 1) (row sets i) (row sets i).length ∧ 0 < (row sets i).length
theorem SetsOk.len {n : Nat} {sets : List (List Int)} (h : SetsOk n sets) {i : Nat} (hi : i < sets.length) : (row sets i).length ≤ 32 := by
  have := rise_len (n := (n : Int)) (h.2.2 i hi).1 (by omega)
  have := h.2.1
  omega

set_option maxHeartbeats 2000000 in
theorem differenceTable_c (w : World) (n : Nat) (A : Option Addr) (m c : Nat) (R : Spine) (sets : List (List Int)) (hr : RdM w A c R sets) (hm : sets.length = m) (hok : SetsOk n sets) (hm8 : m ≤ 8) :
    Calls Try.prog 139 #[.int .i64 (n : Int), .slice A m c] w (PostS w (incS n sets m)) := by
  obtain ⟨hn1, hn2, hsets⟩ := hok
  have hmk := fun W : World => run_make_row' (P := Try.prog) 35 2 (.int .i64 0) 8 Try.underlying35 infoI rfl .i64 .i64 n (by omega) (by omega) W
  have H0 := Lib.hid (OwnI.made w n (by unfold maxLen; omega) (Nat.le_refl w.heap.size))
  have HR := Lib.hid hr
  have HM := Lib.hid hm
  have HS := Lib.hid hsets
  have HU := Lib.hid (Upto.s (n := n) (sets := sets) (fun i hi => SetsOk.len (n := n) ⟨hn1, hn2, hsets⟩ hi))
  clear hr hm hsets
  go_enter Try.func139, Try.ntmps139
  go_wp2
  clear hmk
  go_loopw [16] (fun i wr => ∃ k : Nat, k ≤ m ∧ i = .int .i64 k ∧ OwnI wr w.heap.size (some ⟨w.heap.size, 0, none⟩) n (incS n sets k) ∧ Below w.heap.size w wr) (fun i _ => m - (intOf i).toNat)
  case atStart => exact ⟨0, Nat.zero_le _, rfl, H0.out, (Below.refl _ _).alloc (Nat.le_refl _) _⟩
  case round =>
    obtain ⟨k, hk, rfl, ho, hB⟩ := hrel
    have HO := Lib.hid ho
    clear ho
    by_cases hlt : k < m
    · have hkx : k < sets.length := by rw [HM.out]; exact hlt
      obtain ⟨b, off, e, hb, hc⟩ := HR.out.at_ k hkx
      subst e
      have hrow := HR.out.rows k hkx
      obtain ⟨hrise, hpos⟩ := HS.out k hkx
      have hupk := HU.out k (by omega)
      obtain ⟨s, hs⟩ : ∃ s, s = row sets k := ⟨_, rfl⟩
      have HSk := Lib.hid hs
      obtain ⟨A1, hA1⟩ : ∃ A1, A1 = (R k).1 := ⟨_, rfl⟩
      obtain ⟨C1, hC1⟩ : ∃ C1, C1 = (R k).2 := ⟨_, rfl⟩
      rw [← hs] at hrow hrise hpos hc
      rw [← hA1, ← hC1] at hrow hc
      obtain ⟨L, hL⟩ : ∃ L, L = s.length := ⟨_, rfl⟩
      rw [← hL] at hc hpos
      have HL := Lib.hid hL
      obtain ⟨b1, o1, e1, hb1, hcs⟩ := hrow.open0 (by rw [HL.out.symm]; exact hpos)
      subst e1
      have hL32 : L ≤ 32 := by
        have := rise_len (n := (n : Int)) hrise (by omega)
        rw [← HL.out] at this; omega
      have hc' := (hB.cell (p := ⟨b, off + k, none⟩) hb).trans hc
      have HCS := Lib.hid hcs
      have HRi := Lib.hid hrise
      have HUk := Lib.hid hupk
      clear hc hrow hcs hrise hupk hs hA1 hC1 hL
      go_wp2
      go_loopw [22] (fun i wr => ∃ a : Nat, a ≤ L ∧ i = .int .i64 a ∧ OwnI wr w.heap.size (some ⟨w.heap.size, 0, none⟩) n (incA n s a (incS n sets k)) ∧ Below w.heap.size w wr) (fun i _ => L - (intOf i).toNat)
      case atStart => exact ⟨0, Nat.zero_le _, rfl, HO.out, hB⟩
      case round =>
        obtain ⟨a, ha, rfl, ho2, hB2⟩ := hrel
        have HO2 := Lib.hid ho2
        clear ho2
        by_cases hlta : a < L
        · have hca := (hB2.cell (p := ⟨b1, o1 + a, none⟩) hb1).trans (HCS.out a (by rw [← HL.out]; exact hlta))
          have hxa := (HRi.out a (by rw [← HL.out]; exact hlta)).1
          have hUa := Upto.a (n := n) (s := s) HUk.out (by rw [← HL.out]; exact hL32) a
          obtain ⟨x, hx⟩ : ∃ x, x = nth s a := ⟨_, rfl⟩
          have HX := Lib.hid hx
          rw [← hx] at hca hxa
          have HUa := Lib.hid hUa
          obtain ⟨hx0, hx1⟩ := hxa
          clear hx hUa
          go_wp2
          go_loopw [28] (fun i wr => ∃ q : Nat, q ≤ L ∧ i = .int .i64 q ∧ OwnI wr w.heap.size (some ⟨w.heap.size, 0, none⟩) n (incB n s a q (incA n s a (incS n sets k))) ∧ Below w.heap.size w wr) (fun i _ => L - (intOf i).toNat)
          case atStart => exact ⟨0, Nat.zero_le _, rfl, HO2.out, hB2⟩
          case round =>
            obtain ⟨q, hq, rfl, ho3, hB3⟩ := hrel
            by_cases hltq : q < L
            · have hcq := (hB3.cell (p := ⟨b1, o1 + q, none⟩) hb1).trans (HCS.out q (by rw [← HL.out]; exact hltq))
              have hyq := (HRi.out q (by rw [← HL.out]; exact hltq)).1
              by_cases e : a = q
              · subst e
                rw [← HX.out] at hcq
                have hne : (x != x) = false := by simp
                have HO3 := Lib.hid (show OwnI wr w.heap.size (some ⟨w.heap.size, 0, none⟩) n (incB n s a (a + 1) (incA n s a (incS n sets k))) by rw [incB, if_pos rfl]; exact ho3)
                clear ho3 hyq
                go_wp2
                go_roundw
                case rel => exact ⟨a + 1, by omega, by go_num, HO3.out, hB3⟩
                case measure => simp [intOf]; omega
              · have hxy := rise_ne HRi.out (i := a) (j := q) (by rw [← HL.out]; exact hlta) (by rw [← HL.out]; exact hltq) e
                have hd := dif_facts hn1 hn2 ⟨hx0, hx1⟩ hyq
                have HT := Lib.hid (show incB n s a (q + 1) (incA n s a (incS n sets k)) = incAt (incB n s a q (incA n s a (incS n sets k))) (difAt n x (nth s q)) by rw [incB, if_neg e, HX.out])
                rw [← HX.out] at hxy
                obtain ⟨y, hy⟩ : ∃ y, y = nth s q := ⟨_, rfl⟩
                rw [← hy] at hcq hyq hxy hd
                have HY := Lib.hid hy
                obtain ⟨d, hdd⟩ : ∃ d, d = difAt n x y := ⟨_, rfl⟩
                rw [← hdd] at hd
                obtain ⟨hd1, hd2, hd3, hd4⟩ := hd
                obtain ⟨hy0, hy1⟩ := hyq
                have hne : (x != y) = true := by rw [bne_iff_ne]; exact hxy
                have hlen : (incB n s a q (incA n s a (incS n sets k))).length = n := by rw [length_incB, length_incA, length_incS]
                obtain ⟨g, eg, _, _, hct, hft⟩ := ho3.at_ (k := d) (by rw [hlen]; exact hd2)
                injection eg with eg
                injection eg with eg
                subst eg
                have hub := Upto.b (n := n) (s := s) (a := a) HUa.out q d
                obtain ⟨v, hv⟩ : ∃ v, v = nth (incB n s a q (incA n s a (incS n sets k))) d := ⟨_, rfl⟩
                have hst := ho3.stored d (v + 1)
                have HO3 := Lib.hid (show OwnI (wr.setCell ⟨w.heap.size, d, none⟩ (.int .i64 (v + 1))) w.heap.size (some ⟨w.heap.size, 0, none⟩) n (incB n s a (q + 1) (incA n s a (incS n sets k))) by
                  rw [HT.out, ← HY.out, ← hdd, incAt, ← hv]; exact hst)
                have HB3 := Lib.hid (hB3.setCell (p := ⟨w.heap.size, d, none⟩) (Nat.le_refl _) (.int .i64 (v + 1)))
                rw [← hv] at hct hub
                obtain ⟨hv0, hv1⟩ := hub
                have hv2 : v ≤ 100000 := by omega
                clear ho3 hst hlen hdd hv hy hxy e
                go_wp2
                go_roundw
                case rel => exact ⟨q + 1, by omega, by go_num, HO3.out, HB3.out⟩
                case measure => simp [intOf]; omega
            · obtain rfl : q = L := by omega
              have HO3 := Lib.hid (show OwnI wr w.heap.size (some ⟨w.heap.size, 0, none⟩) n (incA n s (a + 1) (incS n sets k)) by rw [incA, ← HL.out]; exact ho3)
              clear ho3
              go_wp2
              go_roundw
              case rel => exact ⟨a + 1, by omega, by go_num, HO3.out, hB3⟩
              case measure => simp [intOf]; omega
        · obtain rfl : a = L := by omega
          have HO3 := Lib.hid (show OwnI wr w.heap.size (some ⟨w.heap.size, 0, none⟩) n (incS n sets (k + 1)) by rw [incS, ← HSk.out, ← HL.out]; exact HO2.out)
          go_wp2
          go_roundw
          case rel => exact ⟨k + 1, by omega, by go_num, HO3.out, hB2⟩
          case measure => simp [intOf]; omega
    · obtain rfl : k = m := by omega
      have HLn := Lib.hid (length_incS n sets k)
      go_wp2
      go_ret
      exact ⟨⟨_, _, _, rfl, HLn.out, HO.out⟩, hB⟩
set_option maxHeartbeats 4000000 in
set_option maxRecDepth 100000 in
theorem l13Table_c (w : World) (n : Nat) (A : Option Addr) (m c : Nat) (R : Spine) (sets : List (List Int)) (hr : RdM w A c R sets) (hm : sets.length = m) (hok : SetsOk n sets) (hm8 : m ≤ 8) :
    Calls Try.prog 138 #[.int .i64 (n : Int), .slice A m c] w (PostS w (incS n sets m)) := by
  obtain ⟨hn1, hn2, hsets⟩ := hok
  have hmk := fun W : World => run_make_row' (P := Try.prog) 35 2 (.int .i64 0) 8 Try.underlying35 infoI rfl .i64 .i64 n (by omega) (by omega) W
  have H0 := Lib.hid (OwnI.made w n (by unfold maxLen; omega) (Nat.le_refl w.heap.size))
  have HR := Lib.hid hr
  have HM := Lib.hid hm
  have HS := Lib.hid hsets
  have HU := Lib.hid (Upto.s (n := n) (sets := sets) (fun i hi => SetsOk.len (n := n) ⟨hn1, hn2, hsets⟩ hi))
  clear hr hm hsets
  go_enter Try.func138, Try.ntmps138
  go_wp2
  clear hmk
  go_loopw [6] (fun i wr => ∃ k : Nat, k ≤ m ∧ i = .int .i64 k ∧ OwnI wr w.heap.size (some ⟨w.heap.size, 0, none⟩) n (incS n sets k) ∧ Below w.heap.size w wr) (fun i _ => m - (intOf i).toNat)
  case atStart => exact ⟨0, Nat.zero_le _, rfl, H0.out, (Below.refl _ _).alloc (Nat.le_refl _) _⟩
  case round =>
    obtain ⟨k, hk, rfl, ho, hB⟩ := hrel
    have HO := Lib.hid ho
    clear ho
    by_cases hlt : k < m
    · have hkx : k < sets.length := by rw [HM.out]; exact hlt
      obtain ⟨b, off, e, hb, hc⟩ := HR.out.at_ k hkx
      subst e
      have hrow := HR.out.rows k hkx
      obtain ⟨hrise, hpos⟩ := HS.out k hkx
      have hupk := HU.out k (by omega)
      obtain ⟨s, hs⟩ : ∃ s, s = row sets k := ⟨_, rfl⟩
      have HSk := Lib.hid hs
      obtain ⟨A1, hA1⟩ : ∃ A1, A1 = (R k).1 := ⟨_, rfl⟩
      obtain ⟨C1, hC1⟩ : ∃ C1, C1 = (R k).2 := ⟨_, rfl⟩
      rw [← hs] at hrow hrise hpos hc
      rw [← hA1, ← hC1] at hrow hc
      obtain ⟨L, hL⟩ : ∃ L, L = s.length := ⟨_, rfl⟩
      rw [← hL] at hc hpos
      have HL := Lib.hid hL
      obtain ⟨b1, o1, e1, hb1, hcs⟩ := hrow.open0 (by rw [HL.out.symm]; exact hpos)
      subst e1
      have hL32 : L ≤ 32 := by
        have := rise_len (n := (n : Int)) hrise (by omega)
        rw [← HL.out] at this; omega
      have hc' := (hB.cell (p := ⟨b, off + k, none⟩) hb).trans hc
      have HCX := Lib.hid hc
      have HCS := Lib.hid hcs
      have HRi := Lib.hid hrise
      have HUk := Lib.hid hupk
      clear hc hrow hcs hrise hupk hs hA1 hC1 hL
      go_wp2
      go_loopw [7] (fun i wr => ∃ a : Nat, a ≤ L ∧ i = .int .i64 a ∧ OwnI wr w.heap.size (some ⟨w.heap.size, 0, none⟩) n (incA n s a (incS n sets k)) ∧ Below w.heap.size w wr) (fun i _ => L - (intOf i).toNat)
      case atStart => exact ⟨0, Nat.zero_le _, rfl, HO.out, hB⟩
      case round =>
        obtain ⟨a, ha, rfl, ho2, hB2⟩ := hrel
        have HO2 := Lib.hid ho2
        have hcw := (hB2.cell (p := ⟨b, off + k, none⟩) hb).trans HCX.out
        clear ho2
        by_cases hlta : a < L
        · have hca := (hB2.cell (p := ⟨b1, o1 + a, none⟩) hb1).trans (HCS.out a (by rw [← HL.out]; exact hlta))
          have hxa := (HRi.out a (by rw [← HL.out]; exact hlta)).1
          have hUa := Upto.a (n := n) (s := s) HUk.out (by rw [← HL.out]; exact hL32) a
          obtain ⟨x, hx⟩ : ∃ x, x = nth s a := ⟨_, rfl⟩
          have HX := Lib.hid hx
          rw [← hx] at hca hxa
          have HUa := Lib.hid hUa
          obtain ⟨hx0, hx1⟩ := hxa
          clear hx hUa
          go_wp2
          go_loopw [8] (fun i wr => ∃ q : Nat, q ≤ L ∧ i = .int .i64 q ∧ OwnI wr w.heap.size (some ⟨w.heap.size, 0, none⟩) n (incB n s a q (incA n s a (incS n sets k))) ∧ Below w.heap.size w wr) (fun i _ => L - (intOf i).toNat)
          case atStart => exact ⟨0, Nat.zero_le _, rfl, HO2.out, hB2⟩
          case round =>
            obtain ⟨q, hq, rfl, ho3, hB3⟩ := hrel
            have hcw3 := (hB3.cell (p := ⟨b, off + k, none⟩) hb).trans HCX.out
            by_cases hltq : q < L
            · have hcq := (hB3.cell (p := ⟨b1, o1 + q, none⟩) hb1).trans (HCS.out q (by rw [← HL.out]; exact hltq))
              have hyq := (HRi.out q (by rw [← HL.out]; exact hltq)).1
              by_cases e : a = q
              · subst e
                rw [← HX.out] at hcq
                have hne : ((a : Int) != (a : Int)) = false := by simp
                have HO3 := Lib.hid (show OwnI wr w.heap.size (some ⟨w.heap.size, 0, none⟩) n (incB n s a (a + 1) (incA n s a (incS n sets k))) by rw [incB, if_pos rfl]; exact ho3)
                clear ho3 hyq
                go_wp2
                go_roundw
                case rel => exact ⟨a + 1, by omega, by go_num, HO3.out, hB3⟩
                case measure => simp [intOf]; omega
              · have hxy := rise_ne HRi.out (i := a) (j := q) (by rw [← HL.out]; exact hlta) (by rw [← HL.out]; exact hltq) e
                have hd := dif_facts hn1 hn2 ⟨hx0, hx1⟩ hyq
                have HT := Lib.hid (show incB n s a (q + 1) (incA n s a (incS n sets k)) = incAt (incB n s a q (incA n s a (incS n sets k))) (difAt n x (nth s q)) by rw [incB, if_neg e, HX.out])
                rw [← HX.out] at hxy
                obtain ⟨y, hy⟩ : ∃ y, y = nth s q := ⟨_, rfl⟩
                rw [← hy] at hcq hyq hxy hd
                have HY := Lib.hid hy
                obtain ⟨d, hdd⟩ : ∃ d, d = difAt n x y := ⟨_, rfl⟩
                rw [← hdd] at hd
                obtain ⟨hd1, hd2, hd3, hd4⟩ := hd
                obtain ⟨hy0, hy1⟩ := hyq
                have hne : ((a : Int) != (q : Int)) = true := by rw [bne_iff_ne]; omega
                have hne2 : (a != q) = true := by rw [bne_iff_ne]; exact e
                have hca3 := (hB3.cell (p := ⟨b1, o1 + a, none⟩) hb1).trans (HCS.out a (by rw [← HL.out]; exact hlta))
                rw [← HX.out] at hca3
                have q1 : IntKind.i64.wrap (x - y) = x - y := IntWalk.i64_in _ (by omega)
                have q2 : IntKind.i64.wrap (x - y + (n : Int)) = x - y + (n : Int) := IntWalk.i64_in _ (by omega)
                have q3 : IntKind.i64.wrap (d : Int) = (d : Int) := IntWalk.i64_in _ (by omega)
                have t1 : (x - y + (n : Int)).tmod (n : Int) = (d : Int) := by rw [Int.tmod_eq_emod_of_nonneg hd3, hd1]
                have n0 : ((n : Int) == 0) = false := beq_eq_false_iff_ne.2 (by omega)
                have n1 : ¬ (n : Int) = 0 := by omega
                have n2 : ¬ n = 0 := by omega
                have i0 : (0 : Int) ≤ (d : Int) := by omega
                have i1 : (d : Int) < (n : Int) := by omega
                have i2 : (k : Int) < (m : Int) := by omega
                have i3 : (a : Int) < (L : Int) := by omega
                have i4 : (q : Int) < (L : Int) := by omega
                have hlen : (incB n s a q (incA n s a (incS n sets k))).length = n := by rw [length_incB, length_incA, length_incS]
                obtain ⟨g, eg, _, _, hct, hft⟩ := ho3.at_ (k := d) (by rw [hlen]; exact hd2)
                injection eg with eg
                injection eg with eg
                subst eg
                have hub := Upto.b (n := n) (s := s) (a := a) HUa.out q d
                obtain ⟨v, hv⟩ : ∃ v, v = nth (incB n s a q (incA n s a (incS n sets k))) d := ⟨_, rfl⟩
                have hst := ho3.stored d (v + 1)
                have HO3 := Lib.hid (show OwnI (wr.setCell ⟨w.heap.size, d, none⟩ (.int .i64 (v + 1))) w.heap.size (some ⟨w.heap.size, 0, none⟩) n (incB n s a (q + 1) (incA n s a (incS n sets k))) by
                  rw [HT.out, ← HY.out, ← hdd, incAt, ← hv]; exact hst)
                have HB3 := Lib.hid (hB3.setCell (p := ⟨w.heap.size, d, none⟩) (Nat.le_refl _) (.int .i64 (v + 1)))
                rw [← hv] at hct hub
                obtain ⟨hv0, hv1⟩ := hub
                have hv2 : v ≤ 100000 := by omega
                have q4 : IntKind.i64.wrap (v + 1) = v + 1 := IntWalk.i64_in _ (by omega)
                clear ho3 hst hlen hdd hv hy hxy e hd1
                go_wp2
                go_region
                all_goals (clear q1 q2 q3 q4 t1)
                all_goals go_wp2
                all_goals go_roundw
                case rel => exact ⟨q + 1, by omega, by go_num, HO3.out, HB3.out.drew⟩
                case measure => simp [intOf]; omega
            · obtain rfl : q = L := by omega
              have HO3 := Lib.hid (show OwnI wr w.heap.size (some ⟨w.heap.size, 0, none⟩) n (incA n s (a + 1) (incS n sets k)) by rw [incA, ← HL.out]; exact ho3)
              clear ho3
              go_wp2
              go_roundw
              case rel => exact ⟨a + 1, by omega, by go_num, HO3.out, hB3⟩
              case measure => simp [intOf]; omega
        · obtain rfl : a = L := by omega
          have HO3 := Lib.hid (show OwnI wr w.heap.size (some ⟨w.heap.size, 0, none⟩) n (incS n sets (k + 1)) by rw [incS, ← HSk.out, ← HL.out]; exact HO2.out)
          go_wp2
          go_roundw
          case rel => exact ⟨k + 1, by omega, by go_num, HO3.out, hB2⟩
          case measure => simp [intOf]; omega
    · obtain rfl : k = m := by omega
      have HLn := Lib.hid (length_incS n sets k)
      go_wp2
      go_ret
      exact ⟨⟨_, _, _, rfl, HLn.out, HO.out⟩, hB⟩
end Go.Proofs.Ytpgmjfgjlddhgaa
