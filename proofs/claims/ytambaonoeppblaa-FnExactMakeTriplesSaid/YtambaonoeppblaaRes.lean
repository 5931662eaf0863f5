/-
  ValidResolution of both sides; identity. Conditions: those of each theorem.
-/
import Derived.Test.YtambaonoeppblaaMult
import Derived.Test.YtambaonoeppblaaClass
namespace Go.Proofs.Ytambaonoeppblaa
open Go.RowKit
set_option linter.unusedVariables false
set_option linter.unusedSimpArgs false

def idL (n : Nat) : List Int := (List.range n).map fun (i : Nat) => (i : Int)
theorem idL_len (n : Nat) : (idL n).length = n := by simp [idL]
def idTo (n k : Nat) : List Int := (List.range n).map fun (i : Nat) => if i < k then (i : Int) else 0
theorem idTo_len (n k : Nat) : (idTo n k).length = n := by simp [idTo]
theorem idTo_zero (n : Nat) : idTo n 0 = List.replicate n 0 := by
  apply List.ext_getElem
  · simp [idTo]
  · intro k h1 h2; simp [idTo]
theorem idTo_set {n k : Nat} (hk : k < n) : (idTo n k).set k (k : Int) = idTo n (k + 1) := by
  apply List.ext_getElem
  · simp [idTo]
  · intro j h1 h2
    rw [List.getElem_set]
    simp only [idTo, List.getElem_map, List.getElem_range]
    by_cases e : k = j
    · subst e; rw [if_pos rfl, if_pos (by omega)]
    · rw [if_neg e]
      by_cases h : j < k
      · rw [if_pos h, if_pos (by omega)]
      · rw [if_neg h, if_neg (by omega)]
theorem idTo_all (n : Nat) : idTo n n = idL n := by
  unfold idTo idL
  exact List.map_congr_left fun i hi => if_pos (List.mem_range.1 hi)

set_option maxHeartbeats 1000000 in
theorem identity_c (w : World) (n : Nat) (hn : n ≤ 1048576) : Calls Try.prog 67 #[.int .i64 (n : Int)] w (PostS w (idL n)) := by
  have hmk := fun W : World => run_make_row' (P := Try.prog) 32 2 (.int .i64 0) 8 Try.underlying32 infoI rfl .i64 .i64 n (by omega) (by omega) W
  have HO0 := Lib.hid (show OwnI (w.alloc (.cells (madeCells #[.int .i64 0] n) 2)) w.heap.size (some ⟨w.heap.size, 0, none⟩) n (idTo n 0) by rw [idTo_zero]; exact OwnI.made w n (by unfold maxLen; omega) (Nat.le_refl _))
  have HB0 := Lib.hid ((Below.refl w.heap.size w).alloc (Nat.le_refl _) (.cells (madeCells #[.int .i64 0] n) 2))
  go_enter Try.func67, Try.ntmps67
  go_wp2
  obtain ⟨g, hg⟩ : ∃ g, g = w.heap.size := ⟨_, rfl⟩
  have hgl : w.heap.size ≤ g := by omega
  rw [← hg]
  have HO1 := Lib.hid (show OwnI (w.alloc (.cells (madeCells #[.int .i64 0] n) 2)) w.heap.size (some ⟨g, 0, none⟩) n (idTo n 0) by rw [hg]; exact HO0.out)
  clear hg hmk HO0
  generalize (w.alloc (.cells (madeCells #[.int .i64 0] n) 2)) = w1 at *
  go_loopw [9] (fun i wr => ∃ k : Nat, k ≤ n ∧ i = .int .i64 k ∧ Hid (OwnI wr w.heap.size (some ⟨g, 0, none⟩) n (idTo n k)) ∧ Hid (Below w.heap.size w wr)) (fun i _ => n - (intOf i).toNat)
  case atStart => exact ⟨0, Nat.zero_le _, rfl, HO1, HB0⟩
  case round =>
    obtain ⟨k, hk, rfl, HO, HB⟩ := hrel
    by_cases hlt : k < n
    · obtain ⟨g1, e1, _, _, hc, hf⟩ := HO.out.at_ (k := k) (by rw [idTo_len]; exact hlt)
      injection e1 with e1
      injection e1 with e1
      subst e1
      have hst := HO.out.stored k (k : Int)
      rw [idTo_set hlt] at hst
      have HO2 := Lib.hid hst
      have HB2 := Lib.hid (HB.out.setCell (p := ⟨g, k, none⟩) hgl (.int .i64 (k : Int)))
      have hk0 : (0 : Int) ≤ (k : Int) := by omega
      have hk1 : (k : Int) < (n : Int) := by omega
      clear hst
      go_wp2
      go_roundw
      case rel => exact ⟨k + 1, by omega, by go_num, HO2, HB2⟩
      case measure => simp [intOf]; omega
    · obtain rfl : k = n := by omega
      have HL := Lib.hid (idL_len k)
      have HOf := Lib.hid (show OwnI wr w.heap.size (some ⟨g, 0, none⟩) k (idL k) by rw [← idTo_all]; exact HO.out)
      go_wp2
      go_ret
      exact ⟨⟨_, k, k, rfl, HL.out, HOf.out⟩, HB.out⟩

/-! ### The plain law -/
theorem putL_len_mem {xs : List Int} {v : Int} (h : xs.Pairwise (· < ·)) (hv : v ∈ xs) : putL xs v = xs := by
  induction xs with
  | nil => simp at hv
  | cons x xs ih =>
    have h' := List.pairwise_cons.1 h
    rcases putL_cons x v xs with ⟨h1, e⟩ | ⟨h1, e⟩ | ⟨h1, e⟩
    · rw [e]
      rcases List.mem_cons.1 hv with rfl | hv
      · omega
      · rw [ih h'.2 hv]
    · rcases List.mem_cons.1 hv with rfl | hv
      · omega
      · have := h'.1 v hv; omega
    · exact e
theorem putsTo_inj {f : Nat → Int} {k : Nat} (h : (putsTo f k).length = k) : ∀ i j, i < j → j < k → f i ≠ f j := by
  induction k with
  | zero => intro i j _ hj; omega
  | succ k ih =>
    rw [putsTo] at h
    have h1 := putL_length (putsTo f k) (f k)
    have h2 := putsTo_len f k
    have hk : (putsTo f k).length = k := by omega
    intro i j hij hj e
    by_cases ej : j = k
    · subst ej
      have hm : f j ∈ putsTo f j := putsTo_mem.2 ⟨i, hij, e⟩
      rw [putL_len_mem (putsTo_rise f j) hm] at h
      omega
    · exact ih hk i j hij (by omega) e
theorem inj_nodup {xs : List Int} : (∀ i j, i < j → j < xs.length → nth xs i ≠ nth xs j) ↔ xs.Nodup := by
  unfold List.Nodup
  rw [List.pairwise_iff_getElem]
  constructor
  · intro h i j hi hj hij e
    exact h i j hij hj (by rw [nth_eq hi, nth_eq hj]; exact e)
  · intro h i j hij hj e
    exact h i j (by omega) hj hij (by rw [nth_eq (by omega), nth_eq hj] at e; exact e)
theorem rise_full {xs : List Int} {b : Nat} (h : xs.Pairwise (· < ·)) (hb : ∀ x ∈ xs, 0 ≤ x ∧ x < (b : Int)) (hl : xs.length = b) : xs = idL b := by
  refine rise_ext h ?_ fun z => ?_
  · unfold idL
    rw [List.pairwise_map]
    exact (List.pairwise_lt_range (n := b)).imp fun h => by omega
  · have hn : xs.Nodup := h.imp fun h => by omega
    have h2 := (nodup_full hn hb).1 hl
    constructor
    · intro hz
      have := hb z hz
      exact List.mem_map.2 ⟨z.toNat, List.mem_range.2 (by omega), by omega⟩
    · intro hz
      obtain ⟨i, hi, e⟩ := List.mem_map.1 hz
      rw [← e]
      exact h2 i (List.mem_range.1 hi)
theorem nth_range {xs : List Int} : (List.range xs.length).map (nth xs) = xs := by
  apply List.ext_getElem
  · simp
  · intro k h1 h2; simp [nth, h2]
/-- The program sorts; the reference counts. -/
theorem res_same {xs : List Int} {b : Nat} (hb : ∀ x ∈ xs, 0 ≤ x ∧ x < (b : Int)) : sortL xs = idL b ↔ xs.length = b ∧ (putsTo (nth xs) xs.length).length = xs.length := by
  constructor
  · intro h
    have hl : xs.length = b := by rw [← sortL_len, h, idL_len]
    refine ⟨hl, ?_⟩
    have hn : xs.Nodup := by
      refine (List.mergeSort_perm xs (fun x y => decide (x ≤ y))).nodup_iff.1 ?_
      show (sortL xs).Nodup
      rw [h]
      unfold idL List.Nodup
      rw [List.pairwise_map]
      exact (List.pairwise_lt_range (n := b)).imp fun h => by omega
    rw [putsTo_sort (inj_nodup.2 hn), nth_range, sortL_len]
  · rintro ⟨hl, h⟩
    have hn := inj_nodup.1 (putsTo_inj h)
    exact rise_full (sortL_rise hn) (fun x hx => hb x (sortL_mem.1 hx)) (by rw [sortL_len, hl])

def flatTo (cls : List (List Int)) (k : Nat) : List Int := (cls.take k).flatten
theorem flatTo_zero (cls : List (List Int)) : flatTo cls 0 = [] := by simp [flatTo]
theorem flatTo_succ {cls : List (List Int)} {k : Nat} (h : k < cls.length) : flatTo cls (k + 1) = flatTo cls k ++ row cls k := by
  unfold flatTo
  rw [take_row h, List.flatten_append]
  simp
theorem flatTo_len (cls : List (List Int)) (k : Nat) : (flatTo cls k).length = tot (cls.take k) := by simp [flatTo, tot, List.length_flatten]
def resOk (P : Nat) (xss cls : List (List Int)) : Prop := (∀ k, k < cls.length → classB P xss (row cls k) = true) ∧ sortL (flatTo cls cls.length) = idL xss.length
instance (P : Nat) (xss cls : List (List Int)) : Decidable (resOk P xss cls) := by unfold resOk; infer_instance
def resB (p : Int) (xss cls : List (List Int)) : Bool := dsgB p xss && decide (resOk p.toNat xss cls)
theorem class_in {P : Nat} {xss : List (List Int)} {c : List Int} (h : classB P xss c = true) : ∀ x ∈ c, 0 ≤ x ∧ x < (xss.length : Int) := fun x hx => by
  have h1 := (of_decide_eq_true h : ClassOk P xss c).1.mem hx
  omega
theorem flat_in {P : Nat} {xss cls : List (List Int)} {k : Nat} (hk : k ≤ cls.length) (h : ∀ j, j < k → classB P xss (row cls j) = true) : ∀ x ∈ flatTo cls k, 0 ≤ x ∧ x < (xss.length : Int) := by
  induction k with
  | zero => rw [flatTo_zero]; intro x hx; simp at hx
  | succ k ih =>
    rw [flatTo_succ (by omega)]
    intro x hx
    rcases List.mem_append.1 hx with hx | hx
    · exact ih (by omega) (fun j hj => h j (by omega)) x hx
    · exact class_in (h k (by omega)) x hx
end Go.Proofs.Ytambaonoeppblaa
