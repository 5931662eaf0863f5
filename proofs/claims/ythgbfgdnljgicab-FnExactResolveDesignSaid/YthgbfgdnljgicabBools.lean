/-
  Slices of bool that a call made: what they hold, stores; slices.Index and slices.Contains over them. Conditions: those of each theorem.
-/
import Derived.Test.YthgbfgdnljgicabRise
namespace Go.Proofs.Ythgbfgdnljgicab
open Go.RowKit
set_option linter.unusedVariables false
set_option linter.unusedSimpArgs false

theorem infoB : (Try.prog.info? 4).map (fun i => (i.zero, i.size, i.bytes)) = some (some (.bool false), 1, 1) := by kernel_rfl

def flag (bs : List Bool) (k : Nat) : Bool := (bs[k]?).getD false
theorem flag_eq {bs : List Bool} {k : Nat} (h : k < bs.length) : flag bs k = bs[k] := by simp [flag, h]

/-- Block g (from lo on) is a row of the flags bs, the call's own. -/
def OwnB (w : World) (lo g n : Nat) (bs : List Bool) : Prop :=
  w.ownsRow lo 4 1 (.slice (some ⟨g, 0, none⟩) n n) n (bs.map Value.bool) ∧ bs.length = n

section
variable {w w' : World} {lo lo' g n : Nat} {bs : List Bool}
theorem OwnB.lt (h : OwnB w lo g n bs) : lo ≤ g ∧ g < w.heap.size := by
  rcases h.1.2 with ⟨e, _⟩ | ⟨g', c, cur, e, hg, hh, _⟩
  · simp at e
  · simp only [Value.slice.injEq, Option.some.injEq, Addr.mk.injEq, and_true] at e
    obtain ⟨rfl, _⟩ := e
    exact ⟨hg, (Array.getElem?_eq_some_iff.1 hh).1⟩
theorem OwnB.of_block (h : OwnB w lo g n bs) (hb : w'.heap[g]? = w.heap[g]?) : OwnB w' lo g n bs := by
  refine ⟨⟨h.1.1, ?_⟩, h.2⟩
  rcases h.1.2 with hn | ⟨g', c, cur, e, hg, hh, r⟩
  · exact .inl hn
  · refine .inr ⟨g', c, cur, e, hg, ?_, r⟩
    simp only [Value.slice.injEq, Option.some.injEq, Addr.mk.injEq, and_true] at e
    obtain ⟨rfl, _⟩ := e
    rw [hb]
    exact hh
theorem OwnB.below (h : OwnB w lo g n bs) (hb : Below w.heap.size w w') : OwnB w' lo g n bs := h.of_block (hb.block g h.lt.2)
theorem OwnB.drewN (h : OwnB w lo g n bs) (m : Nat) : OwnB (w.drewN m) lo g n bs := h
theorem OwnB.alloc (h : OwnB w lo g n bs) (o : Obj) : OwnB (w.alloc o) lo g n bs := h.of_block (Below.heap_alloc w o g h.lt.2)
theorem OwnB.lower (h : OwnB w lo g n bs) (hl : lo' ≤ lo) : OwnB w lo' g n bs := by
  refine ⟨⟨h.1.1, ?_⟩, h.2⟩
  rcases h.1.2 with hn | ⟨g', c, cur, e, hg, r⟩
  · exact .inl hn
  · exact .inr ⟨g', c, cur, e, by omega, r⟩
theorem OwnB.setCell_other (h : OwnB w lo g n bs) {p : Addr} (hp : g ≠ p.block) (u : Value) : OwnB (w.setCell p u) lo g n bs := h.of_block (Below.heap_setCell w p u g hp)
theorem OwnB.at_ (h : OwnB w lo g n bs) {k : Nat} (hk : k < n) : w.cell? ⟨g, k, none⟩ = some (.bool (flag bs k)) ∧ w.frozen? ⟨g, k, none⟩ = false := by
  refine ⟨?_, World.ownsRow.frozenAt h.1 k⟩
  rw [World.ownsRow.cellAt h.1 k (by omega)]
  have := h.2
  simp [flag, show k < bs.length by omega]
theorem OwnB.stored (h : OwnB w lo g n bs) (j : Nat) (x : Bool) : OwnB (w.setCell ⟨g, j, none⟩ (.bool x)) lo g n (bs.set j x) := by
  refine ⟨?_, by rw [List.length_set]; exact h.2⟩
  rw [List.map_set]
  exact (World.ownsRow.stored h.1 j (.bool x)).1
theorem OwnB.made (w : World) (n : Nat) (hn : n ≤ maxLen) {lo : Nat} (hlo : lo ≤ w.heap.size) : OwnB (w.alloc (.cells (madeCells #[.bool false] n) 4)) lo w.heap.size n (List.replicate n false) := by
  have := World.ownsRow_lit (e := 4) (size := 1) w (madeCells #[.bool false] n) n hlo hn (by rw [size_madeCells]; omega)
  rw [toList_madeCells_one] at this
  refine ⟨?_, by simp⟩
  simpa using this
theorem Below.setCell_at {B : Nat} (h : Below B w w') {p : Addr} (hp : B ≤ p.block) (u : Value) : Below B w (w'.setCell p u) := h.setCell hp u
end

/-- What is read of flags: block b holds them from off on. -/
def RdB (w : World) (A : Option Addr) (n : Nat) (bs : List Bool) : Prop := bs.length = n ∧ ∀ k, k < n → ∃ b off, A = some ⟨b, off, none⟩ ∧ b < w.heap.size ∧ w.cell? ⟨b, off + k, none⟩ = some (.bool (flag bs k))
theorem OwnB.rd {w : World} {lo g n : Nat} {bs : List Bool} (h : OwnB w lo g n bs) : RdB w (some ⟨g, 0, none⟩) n bs :=
  ⟨h.2, fun k hk => ⟨g, 0, rfl, h.lt.2, by rw [Nat.zero_add]; exact (h.at_ hk).1⟩⟩

def idxF (bs : List Bool) (x : Bool) (k : Nat) : Bool := decide (flag bs k = x)

set_option maxHeartbeats 400000 in
theorem indexB_c (w : World) (A : Option Addr) (n c : Nat) (bs : List Bool) (x : Bool) (hr : RdB w A n bs) (hm : n ≤ 9223372036854775807) :
    Calls Try.prog 39 #[.slice A n c, .bool x] w fun e w' => e = .returned (.int .i64 (firstIdx (idxF bs x) n)) ∧ w = w' := by
  have HR := Lib.hid hr
  clear hr
  go_enter Try.func39, Try.ntmps39
  go_wp2
  go_loop [8] (fun i => ∃ k : Nat, k ≤ n ∧ i = .int .i64 k ∧ Hid (∀ j, j < k → idxF bs x j = false)) (fun i => n - (intOf i).toNat)
  case atStart => exact ⟨0, Nat.zero_le _, rfl, fun j hj => absurd hj (by omega)⟩
  case round =>
    obtain ⟨k, hk, rfl, hP⟩ := hrel
    by_cases hlt : k < n
    · obtain ⟨b, off, rfl, hb, hc⟩ := HR.out.2 k hlt
      by_cases h1 : flag bs k = x
      · have HF := Lib.hid (firstIdx_hit (p := idxF bs x) hlt (decide_eq_true h1) hP.out)
        rw [h1] at hc
        clear h1
        cases x
        all_goals
          go_wp2
          go_ret
          exact ⟨by rw [HF.out]; rfl, rfl⟩
      · have H1 := Lib.hid (show idxF bs x k = false from decide_eq_false h1)
        have h1' : flag bs k = !x := by cases x <;> cases h : flag bs k <;> simp_all
        rw [h1'] at hc
        clear h1 h1'
        cases x
        all_goals
          go_wp2
          go_round
          case rel =>
            refine ⟨k + 1, by omega, by go_num, fun j hj => ?_⟩
            by_cases e : j = k
            · subst e; exact H1.out
            · exact hP.out j (by omega)
          case measure => simp [intOf]; omega
    · obtain rfl : k = n := by omega
      have HF := Lib.hid (firstIdx_miss (p := idxF bs x) hP.out)
      go_wp2
      go_ret
      exact ⟨by rw [HF.out]; rfl, rfl⟩

theorem anyTo_idx (p : Nat → Bool) (n : Nat) : anyTo p n = decide (0 ≤ firstIdx p n) := by
  rcases h : anyTo p n with _ | _
  · symm
    refine decide_eq_false ?_
    rw [firstIdx_miss (anyTo_false.1 h)]
    omega
  · symm
    refine decide_eq_true ?_
    obtain ⟨k, hk, hp⟩ := anyTo_true.1 h
    unfold firstIdx
    rcases hf : (List.range n).find? p with _ | j
    · have := List.find?_eq_none.1 hf k (List.mem_range.2 hk)
      rw [hp] at this
      simp at this
    · simp

/-! ### Which of P points have been met -/

def covV (P : Nat) (L : List Int) : List Bool := (List.range P).map fun (i : Nat) => hasB L (i : Int)
theorem covV_len (P : Nat) (L : List Int) : (covV P L).length = P := by simp [covV]
theorem covV_nil (P : Nat) : covV P [] = List.replicate P false := by
  apply List.ext_getElem
  · simp [covV]
  · intro k h1 h2; simp [covV, hasB]
theorem covV_flag {P : Nat} {L : List Int} {k : Nat} (h : k < P) : flag (covV P L) k = hasB L (k : Int) := by simp [flag, covV, h]
theorem covV_set {P : Nat} {L : List Int} {k : Nat} (h : k < P) : (covV P L).set k true = covV P (L ++ [(k : Int)]) := by
  apply List.ext_getElem
  · simp [covV]
  · intro i h1 h2
    rw [List.getElem_set]
    simp only [covV, List.getElem_map, List.getElem_range]
    by_cases e : k = i
    · subst e; simp [hasB]
    · rw [if_neg e]
      unfold hasB
      refine decide_eq_decide.2 ⟨fun h => by simp [h], fun h => ?_⟩
      rw [List.mem_append] at h
      rcases h with h | h
      · exact h
      · simp at h; omega

/-- Different numbers below P, counted: as many as are met. -/
theorem filter_or_len {R : List Nat} (hR : R.Nodup) {x : Nat} (hx : x ∈ R) {q : Nat → Bool} (hq : q x = false) : (R.filter fun i => q i || decide (i = x)).length = (R.filter q).length + 1 := by
  induction R with
  | nil => simp at hx
  | cons a l ih =>
    rw [List.nodup_cons] at hR
    by_cases e : a = x
    · subst e
      have hno : ∀ i ∈ l, (q i || decide (i = a)) = q i := fun i hi => by
        have : i ≠ a := fun e => hR.1 (e ▸ hi)
        simp [this]
      rw [List.filter_cons, if_pos (by simp), List.filter_cons, if_neg (by simp [hq]), List.filter_congr hno]
      rfl
    · have hx' : x ∈ l := by
        rcases List.mem_cons.1 hx with h | h
        · exact absurd h.symm e
        · exact h
      have := ih hR.2 hx'
      rw [List.filter_cons, List.filter_cons]
      by_cases ha : q a = true
      · rw [if_pos (by simp [ha]), if_pos ha, List.length_cons, List.length_cons, this]
      · rw [if_neg (by simp [ha, e]), if_neg ha, this]
theorem nodup_count {P : Nat} {L : List Int} (hd : L.Nodup) (hb : ∀ x ∈ L, 0 ≤ x ∧ x < (P : Int)) : L.length = ((List.range P).filter fun i => hasB L ((i : Nat) : Int)).length := by
  induction L with
  | nil =>
    rw [List.filter_eq_nil_iff.2 (fun a _ => by simp [hasB])]; rfl
  | cons x l ih =>
    rw [List.nodup_cons] at hd
    have h1 := ih hd.2 (fun y hy => hb y (by simp [hy]))
    have hx := hb x (by simp)
    have h2 := filter_or_len (R := List.range P) List.nodup_range (x := x.toNat) (by rw [List.mem_range]; omega) (q := fun i => hasB l ((i : Nat) : Int)) (by rw [hasB_false, show ((x.toNat : Nat) : Int) = x by omega]; exact hd.1)
    rw [List.length_cons, h1, ← h2]
    congr 1
    refine List.filter_congr fun i _ => ?_
    rw [Bool.eq_iff_iff, Bool.or_eq_true, hasB_true, hasB_true, decide_eq_true_eq, List.mem_cons]
    constructor
    · rintro (h | h)
      · exact .inr h
      · exact .inl (by omega)
    · rintro (h | h)
      · exact .inr (by omega)
      · exact .inl h
/-- They are P in number if each is met. -/
theorem nodup_full {P : Nat} {L : List Int} (hd : L.Nodup) (hb : ∀ x ∈ L, 0 ≤ x ∧ x < (P : Int)) : L.length = P ↔ ∀ i : Nat, i < P → (i : Int) ∈ L := by
  rw [nodup_count hd hb]
  have hl : (List.range P).length = P := List.length_range
  constructor
  · intro h i hi
    have : ((List.range P).filter fun i => hasB L ((i : Nat) : Int)).length = (List.range P).length := by rw [h, hl]
    have := List.length_filter_eq_length_iff.1 this i (List.mem_range.2 hi)
    exact hasB_true.1 this
  · intro h
    have : ((List.range P).filter fun i => hasB L ((i : Nat) : Int)).length = (List.range P).length := List.length_filter_eq_length_iff.2 fun i hi => hasB_true.2 (h i (List.mem_range.1 hi))
    rw [this, hl]
end Go.Proofs.Ythgbfgdnljgicab
