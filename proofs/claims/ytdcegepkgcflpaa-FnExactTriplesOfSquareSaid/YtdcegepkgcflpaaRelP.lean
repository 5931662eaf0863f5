/-
  Permutations and the images of blocks as plain laws. No program in sight. Conditions: those of each theorem.
-/
import Derived.Test.YtdcegepkgcflpaaCompP
namespace Go.Proofs.Ytdcegepkgcflpaa
open Go.RowKit
set_option linter.unusedVariables false
set_option linter.unusedSimpArgs false

theorem RdI.take_ {w : World} {A : Option Addr} {c : Nat} {xs : List Int} (h : RdI w A c xs) (k : Nat) : RdI w A c (xs.take k) := by
  refine ⟨Nat.le_trans (by rw [List.length_take]; omega) h.le, h.cap, fun j hj => ?_⟩
  have hj2 : j < k ∧ j < xs.length := by rw [List.length_take] at hj; omega
  obtain ⟨b, off, e, hb, hc⟩ := h.at_ j hj2.2
  exact ⟨b, off, e, hb, by rw [hc]; simp [nth, hj2.1]⟩
/-- What the reference asks of each number. -/
def okAt (p : List Int) (i : Nat) : Prop := (0 ≤ nth p i ∧ nth p i ≤ (p.length : Int) - 1) ∧ hasB (p.take i) (nth p i) = false
def permB (p : List Int) : Bool := decide (p.length ≤ 32 ∧ sortL p = idL p.length)
theorem take_mem {p : List Int} {i : Nat} (hi : i < p.length) {z : Int} : z ∈ p.take i ↔ ∃ j, j < i ∧ nth p j = z := by
  rw [mem_nth]
  constructor
  · rintro ⟨j, hj, e⟩
    rw [List.length_take] at hj
    refine ⟨j, by omega, ?_⟩
    rw [← e]
    simp [nth, show j < i by omega]
  · rintro ⟨j, hj, e⟩
    refine ⟨j, by rw [List.length_take]; omega, ?_⟩
    rw [← e]
    simp [nth, hj]
theorem perm_facts {p : List Int} (h : sortL p = idL p.length) : (∀ x ∈ p, 0 ≤ x ∧ x < (p.length : Int)) ∧ (∀ i j, i < j → j < p.length → nth p i ≠ nth p j) := by
  have hb : ∀ x ∈ p, 0 ≤ x ∧ x < (p.length : Int) := fun x hx => idL_mem.1 (by rw [← h]; exact sortL_mem.2 hx)
  refine ⟨hb, ?_⟩
  have := (res_same hb).1 h
  exact putsTo_inj this.2
theorem perm_iff {p : List Int} : permB p = true ↔ p.length ≤ 32 ∧ ∀ i, i < p.length → okAt p i := by
  unfold permB
  rw [decide_eq_true_eq]
  constructor
  · rintro ⟨h1, h2⟩
    obtain ⟨hb, hi⟩ := perm_facts h2
    refine ⟨h1, fun i hip => ⟨?_, ?_⟩⟩
    · have := hb (nth p i) (mem_nth.2 ⟨i, hip, rfl⟩)
      omega
    · rw [hasB_false, take_mem hip]
      rintro ⟨j, hj, e⟩
      exact hi j i hj hip e
  · rintro ⟨h1, h2⟩
    refine ⟨h1, ?_⟩
    have hb : ∀ x ∈ p, 0 ≤ x ∧ x < (p.length : Int) := fun x hx => by
      obtain ⟨i, hi, e⟩ := mem_nth.1 hx
      have := (h2 i hi).1
      omega
    have hn : p.Nodup := inj_nodup.1 fun i j hij hj e => by
      have := hasB_false.1 (h2 j hj).2
      exact this ((take_mem hj).2 ⟨i, hij, e⟩)
    exact rise_full (sortL_rise hn) (fun x hx => hb x (sortL_mem.1 hx)) (sortL_len p)
theorem perm_no {p : List Int} {i : Nat} (hi : i < p.length) (h : ¬ okAt p i) : permB p = false := by
  rcases e : permB p with _ | _
  · rfl
  · exact absurd ((perm_iff.1 e).2 i hi) h
theorem idL_nth {n k : Nat} (hk : k < n) : nth (idL n) k = (k : Int) := by simp [nth, idL, hk]
theorem id_ext {xs : List Int} {n : Nat} (hl : xs.length = n) (h : ∀ k, k < n → nth xs k = (k : Int)) : xs = idL n := by
  apply List.ext_getElem
  · rw [hl, idL_len]
  · intro k h1 h2
    have := h k (by omega)
    rw [nth_eq h1] at this
    rw [this]
    simp [idL]
/-- The image of a block. -/
def imF (p b : List Int) (i : Nat) : Int := nth p (nth b i).toNat
def imL (p b : List Int) : List Int := putsTo (imF p b) b.length
theorem im_sort {p b : List Int} (hp : sortL p = idL p.length) (hb : setB b (p.length : Int) = true) : imL p b = sortL ((List.range b.length).map (imF p b)) := by
  refine putsTo_sort fun i j hij hj e => ?_
  have hs := setB_iff.1 hb
  have h1 := hs.2.1 (nth b i) (mem_nth.2 ⟨i, by omega, rfl⟩)
  have h2 := hs.2.1 (nth b j) (mem_nth.2 ⟨j, hj, rfl⟩)
  have h3 : nth b i < nth b j := by
    rw [nth_eq hj, nth_eq (Nat.lt_trans hij hj)]
    exact List.pairwise_iff_getElem.1 hs.1 i j (Nat.lt_trans hij hj) hj hij
  exact (perm_facts hp).2 _ _ (by omega) (by omega) e
def rbR (p : List Int) (xss : List (List Int)) : List (List Int) := xss.map (imL p)
theorem rbR_len (p : List Int) (xss : List (List Int)) : (rbR p xss).length = xss.length := by simp [rbR]
theorem rbR_row {p : List Int} {xss : List (List Int)} {k : Nat} (hk : k < xss.length) : row (rbR p xss) k = imL p (row xss k) := by
  rw [row_eq (by rw [rbR_len]; exact hk), row_eq hk]; simp [rbR]
theorem rbR_take {p : List Int} {xss : List (List Int)} {k : Nat} (hk : k < xss.length) : (rbR p xss).take (k + 1) = (rbR p xss).take k ++ [imL p (row xss k)] := by
  have hk' : k < (rbR p xss).length := by rw [rbR_len]; exact hk
  rw [List.take_add_one, List.getElem?_eq_getElem hk']
  congr 1
  simp [rbR, row_eq hk]
theorem imL_len (p b : List Int) : (imL p b).length ≤ b.length := putsTo_len _ _
theorem imL_pos {p b : List Int} (h : 0 < b.length) : 0 < (imL p b).length := by
  have : imF p b 0 ∈ imL p b := putsTo_mem.2 ⟨0, h, rfl⟩
  exact List.length_pos_of_mem this
def rbOk (p : Int) (xss : List (List Int)) (q : List Int) : Int := if dsgB p xss = true ∧ permB q = true then (if (q.length : Int) = p then 0 else 6) else 1
def rbP (p : Int) (xss : List (List Int)) (q : List Int) : Int := if rbOk p xss q = 0 then p else 0
def rbX (p : Int) (xss : List (List Int)) (q : List Int) : List (List Int) := if rbOk p xss q = 0 then sortLL (rbR q xss) else []
theorem rbOk_zero {p : Int} {xss : List (List Int)} {q : List Int} (h : rbOk p xss q = 0) : dsgB p xss = true ∧ permB q = true ∧ (q.length : Int) = p := by
  unfold rbOk at h
  split at h
  · next h1 =>
    split at h
    · next h2 => exact ⟨h1.1, h1.2, h2⟩
    · omega
  · omega
theorem RelabelDesign_small (p : Int) (xss : List (List Int)) (q : List Int) : (rbX p xss q).length ≤ 1048576 ∧ tot (rbX p xss q) ≤ 1048576 := by
  unfold rbX
  split
  · next h =>
    obtain ⟨h1, h2, h3⟩ := rbOk_zero h
    have hD := dsgB_true.1 h1
    have hl : (rbR q xss).length ≤ 128 := by rw [rbR_len]; exact hD.2.1
    have := mk_small (xss := rbR q xss) fun r hr => by
      unfold rbR at hr
      obtain ⟨b, hb, rfl⟩ := List.mem_map.1 hr
      obtain ⟨k, hk, e⟩ := List.mem_iff_getElem.1 hb
      have h4 := blockB_set (hD.2.2 k hk).1
      rw [row_eq hk, e] at h4
      have := setB_len (P := 32) (setB_more h4 hD.1.2 (by omega))
      have := imL_len q b
      omega
    unfold mkL at this
    rwa [if_pos hl] at this
  · simp [tot]
end Go.Proofs.Ytdcegepkgcflpaa
