/-
  slices.CompactFunc at slices.Equal over a slice of lists of the call's own; hasList of the program. Conditions: those of each theorem.
-/
import Derived.Test.YtmmkmkbpgcbehaaGreatPasM
namespace Go.Proofs.YtmmkmkbpgcbehaaGreat
open Go.RowKit
set_option linter.unusedVariables false
set_option linter.unusedSimpArgs false

/-- Cells of an owned row set one by one. -/
theorem own_setCells {e : TypeId} {lo n c g : Nat} : ∀ (vs : List Value) (o : Nat) (w : World) (xs : List Value), w.ownsRow lo e 1 (.slice (some ⟨g, 0, none⟩) n c) n xs →
    ∃ ys, (w.setCells g o vs).ownsRow lo e 1 (.slice (some ⟨g, 0, none⟩) n c) n ys ∧ ys.take o = xs.take o ∧ w.grownBy (w.setCells g o vs) (some g)
  | [], o, w, xs, h => ⟨xs, h, rfl, ⟨rfl, rfl, rfl, Nat.le_refl _, fun _ _ _ => rfl⟩⟩
  | v :: vs, o, w, xs, h => by
    obtain ⟨h1, h2⟩ := World.ownsRow.stored h o v
    obtain ⟨ys, h3, h4, h5⟩ := own_setCells vs (o + 1) _ _ h1
    refine ⟨ys, h3, ?_, grownBy_trans h2 h5⟩
    have h6 : (ys.take (o + 1)).take o = ((xs.set o v).take (o + 1)).take o := by rw [h4]
    rw [List.take_take, List.take_take, Nat.min_eq_left (by omega)] at h6
    rw [h6]
    apply List.ext_getElem
    · simp
    · intro i h7 h8
      simp only [List.getElem_take]
      rw [List.getElem_set_ne]
      simp at h7; omega
/-- A head of an owned row is owned. -/
theorem own_head {w : World} {e : TypeId} {lo n c g m : Nat} {xs : List Value} (h : w.ownsRow lo e 1 (.slice (some ⟨g, 0, none⟩) n c) n xs) (hm : m ≤ n) : w.ownsRow lo e 1 (.slice (some ⟨g, 0, none⟩) m c) m (xs.take m) := by
  refine ⟨by rw [List.length_take, h.1]; omega, ?_⟩
  rcases h.2 with ⟨e1, _⟩ | ⟨g1, cap, cur, e1, hg, hh, hc, hmx, hs, ht⟩
  · cases e1
  · injection e1 with e1 e2 e3
    injection e1 with e1
    injection e1 with e1
    subst e1 e3
    refine .inr ⟨g, c, cur, rfl, hg, hh, by omega, hmx, hs, ?_⟩
    rw [← ht, List.take_take, Nat.mul_one, Nat.mul_one, Nat.min_eq_left hm]

theorem rangeQ {α : Type} (f : Nat → α) {n k : Nat} (h : k < n) : ((List.range n).map f)[k]? = some (f k) := by simp [h]
def dsOf (D : Nat → Row3) (ks : List Nat) : List Row3 := ks.map D
/-- The cells while neighbours are struck out, K rows looked at. -/
def cvals (D : Nat → Row3) (xss : List (List Int)) (n K : Nat) : List Value := ((kept xss K).map fun j => rv (D j)) ++ ((List.range n).map fun k => rv (D k)).drop (kept xss K).length
theorem cvals_high {D : Nat → Row3} {xss : List (List Int)} {n K j : Nat} (h : (kept xss K).length ≤ j) (hj : j < n) : (cvals D xss n K)[j]? = some (rv (D j)) := by
  unfold cvals
  rw [List.getElem?_append_right (by rw [List.length_map]; exact h), List.length_map, List.getElem?_drop, show (kept xss K).length + (j - (kept xss K).length) = j by omega]
  exact rangeQ _ hj
theorem cvals_no {D : Nat → Row3} {xss : List (List Int)} {n K : Nat} (h : kpB xss K = false) : cvals D xss n (K + 1) = cvals D xss n K := by unfold cvals; rw [kept_no h]
theorem cvals_yes {D : Nat → Row3} {xss : List (List Int)} {n K : Nat} (h : kpB xss K = true) (hl : (kept xss K).length < n) : (cvals D xss n K).set (kept xss K).length (rv (D K)) = cvals D xss n (K + 1) := by
  unfold cvals
  rw [kept_yes h, List.set_append_right _ _ (by rw [List.length_map]; exact Nat.le_refl _), List.length_map, Nat.sub_self, List.map_append, List.length_append, List.append_assoc]
  congr 1
  rw [List.drop_eq_getElem_cons (by simpa using hl)]
  simp
theorem cvals_start {D : Nat → Row3} {xss : List (List Int)} {n k : Nat} (h : ∀ j, j < k → kpB xss j = true) (hk : kpB xss k = false) (hn : k ≤ n) : cvals D xss n (k + 1) = (List.range n).map fun k => rv (D k) := by
  unfold cvals
  rw [kept_no hk, kept_all h, List.length_range]
  have : (List.range k).map (fun j => rv (D j)) = ((List.range n).map fun k => rv (D k)).take k := by
    rw [← List.map_take, List.take_range, Nat.min_eq_left hn]
  rw [this, List.take_append_drop]
theorem cvals_take (D : Nat → Row3) (xss : List (List Int)) (n K : Nat) : (cvals D xss n K).take (kept xss K).length = (kept xss K).map fun j => rv (D j) := by
  unfold cvals
  exact List.take_left' (by simp)
theorem OwnM.toD {w : World} {lo : Nat} {A : Option Addr} {c : Nat} {R : Spine} {xss : List (List Int)} (h : OwnM w lo A c R xss) : OwnD w lo A c (dsOf (fun k => ((R k).1, (R k).2, row xss k)) (List.range xss.length)) := by
  have hl : (dsOf (fun k => ((R k).1, (R k).2, row xss k)) (List.range xss.length)).length = xss.length := by simp [dsOf]
  refine ⟨?_, fun d hd => ?_, ?_⟩
  · rw [hl]
    have := h.own
    unfold dsOf
    rw [List.map_map]
    exact this
  · obtain ⟨k, hk, rfl⟩ := List.mem_map.1 hd
    exact h.rows k (List.mem_range.1 hk)
  · unfold dsOf
    rw [List.pairwise_map]
    refine List.Pairwise.imp_of_mem ?_ List.pairwise_lt_range
    intro i j _ hj hij g e
    exact h.apart i j hij (List.mem_range.1 hj) g e

set_option maxRecDepth 100000 in
set_option maxHeartbeats 8000000 in
theorem compact_f (w : World) (lo n c : Nat) (A : Option Addr) (D : Nat → Row3) (xss : List (List Int)) (hx : ∀ k, k < n → row xss k = (D k).2.2) (hxl : xss.length = n) (h : OwnD w lo A c (dsOf D (List.range n))) (hz : n ≤ 1048576) :
    Calls Tryz.prog 59 #[.slice A n c, .func (.func 53) #[] #[]] w fun e w' => e = .returned (.slice A (compLL xss).length c) ∧ OwnD w' lo A c (dsOf D (kept xss n)) ∧ w.grownBy w' (blk A) := by
  have hl : (dsOf D (List.range n)).length = n := by simp [dsOf]
  have hcl : (compLL xss).length = (kept xss n).length := by unfold compLL; rw [List.length_map, hxl]
  rw [hcl]
  have HSame := Lib.hid (fun (q : Nat) (hall : ∀ j, j < n → kpB xss j = true) => show (kept xss n).length = n ∧ OwnD (w.drewN q) lo A c (dsOf D (kept xss n)) ∧ w.grownBy (w.drewN q) (blk A) from by
    rw [kept_all hall, List.length_range]
    exact ⟨rfl, ⟨h.own, h.rows, h.apart⟩, ⟨rfl, rfl, rfl, Nat.le_refl _, fun _ _ _ => rfl⟩⟩)
  by_cases h2 : n < 2
  · have hd : decide ((n : Int) < 2) = true := by simp; omega
    have hd2 : (n : Int) < 2 := by omega
    obtain ⟨e1, e2, e3⟩ := HSame.out 0 (fun j hj => by
      unfold kpB
      exact decide_eq_true (.inl (by omega)))
    have HE := Lib.hid (And.intro e1 (And.intro e2 e3))
    clear e1 e2 e3 h hx hxl hl hcl HSame h2
    go_enter Tryz.func59, Tryz.ntmps59
    go_wp2
    go_ret
    exact ⟨by rw [HE.out.1]; rfl, HE.out.2.1, HE.out.2.2⟩
  have hd : decide ((n : Int) < 2) = false := by simp; omega
  have hd2 : ¬ (n : Int) < 2 := by omega
  have hn2 : 2 ≤ n := by omega
  obtain ⟨g, rfl⟩ : ∃ g, A = some ⟨g, 0, none⟩ := by
    rcases h.own.2 with ⟨_, e2⟩ | ⟨g, cap, cur, e, _⟩
    · omega
    · injection e with e1; exact ⟨g, e1⟩
  have hown := h.own
  rw [hl] at hown
  have HOwn := Lib.hid (show w.ownsRow lo 35 1 (.slice (some ⟨g, 0, none⟩) n c) n ((List.range n).map fun k => rv (D k)) from by
    have := hown
    unfold dsOf at this
    rw [List.map_map] at this
    exact this)
  have hgl := ownR_lt hown
  obtain ⟨hg0, hg1, hLc, hcm⟩ := hgl
  unfold maxLen at hcm
  have HRw := Lib.hid (fun k (hk : k < n) => show OwnI w lo (D k).1 (D k).2.1 (D k).2.2 from h.rows (D k) (List.mem_map.2 ⟨k, List.mem_range.2 hk, rfl⟩))
  have HAp := Lib.hid (show ∀ i j, i < j → j < n → Apart (D i) (D j) from fun i j hij hj => by
    have h3 := h.apart
    unfold dsOf at h3
    rw [List.pairwise_map] at h3
    have := (List.pairwise_iff_getElem.1 h3) i j (by simp; omega) (by simpa using hj) hij
    simpa using this)
  have HX := Lib.hid hx
  have hv := fun (W : World) => Tryz.zeroValue35 W
  clear h hx hxl hl hcl hown
  go_enter Tryz.func59, Tryz.ntmps59
  go_wp2
  go_loopw [5] (fun v wr => ∃ k q : Nat, 1 ≤ k ∧ k ≤ n ∧ v = .int .i64 k ∧ wr = w.drewN q ∧ Hid (∀ j, j < k → kpB xss j = true)) (fun v _ => n - (intOf v).toNat)
  case atStart => exact ⟨1, 0, Nat.le_refl _, by omega, rfl, rfl, Lib.hid fun j hj => by unfold kpB; exact decide_eq_true (.inl (by omega))⟩
  case round =>
    obtain ⟨k, q, hk1, hk, rfl, rfl, HK⟩ := hrel
    by_cases hlt : k < n
    · have hcA := World.ownsRow.cellAt HOwn.out k (by omega)
      have hcB := World.ownsRow.cellAt HOwn.out (k - 1) (by omega)
      rw [show ((List.range n).map fun k => rv (D k))[k]? = some (rv (D k)) from rangeQ _ hlt] at hcA
      rw [show ((List.range n).map fun k => rv (D k))[k - 1]? = some (rv (D (k - 1))) from rangeQ _ (by omega)] at hcB
      unfold rv at hcA hcB
      have hEq := fun q2 => equalQ_c (w.drewN q2) ((HRw.out k hlt).rd.drewN q2) ((HRw.out (k - 1) (by omega)).rd.drewN q2) rfl rfl
      have hi0 : (0 : Int) ≤ (k : Int) := by omega
      have hi1 : (k : Int) < (n : Int) := by omega
      have hsub : IntKind.i64.wrap ((k : Int) - 1) = ((k - 1 : Nat) : Int) := by rw [show (k : Int) - 1 = ((k - 1 : Nat) : Int) by omega]; exact IntWalk.i64_in _ (by omega)
      have hs0 : (0 : Int) ≤ ((k - 1 : Nat) : Int) := by omega
      have hs1 : ((k - 1 : Nat) : Int) < (n : Int) := by omega
      have hKp := (show kpB xss k = true ↔ (D k).2.2 ≠ (D (k - 1)).2.2 from by
        unfold kpB
        rw [decide_eq_true_eq, HX.out k hlt, HX.out (k - 1) (by omega)]
        exact ⟨fun h => by rcases h with h | h; · omega
                           · exact h, fun h => .inr h⟩)
      obtain ⟨b, hb⟩ : ∃ b, b = decide ((D k).2.2 = (D (k - 1)).2.2) := ⟨_, rfl⟩
      rw [← hb] at hEq
      have HEq := Lib.hid hEq
      obtain ⟨lk, hlk⟩ : ∃ l, l = (D k).2.2.length := ⟨_, rfl⟩
      obtain ⟨lj, hlj⟩ : ∃ l, l = (D (k - 1)).2.2.length := ⟨_, rfl⟩
      rw [← hlk] at hcA HEq
      rw [← hlj] at hcB HEq
      clear hEq hlk hlj
      generalize hj : k - 1 = j at hsub hs0 hs1 hcB HEq
      have HJ := Lib.hid hj
      rcases b with _ | _
      · have HK2 := Lib.hid (show ∀ j, j < k + 1 → kpB xss j = true from fun j hj => by
          by_cases e : j = k
          · subst e; exact hKp.2 (of_decide_eq_false hb.symm)
          · exact HK.out j (by omega))
        clear hKp hb hj
        go_wp2
        go_quiet ((go_at_call 53; first | (with_reducible exact quiet_endN (HEq.out _)) | (with_reducible exact quiet_end0 (HEq.out _))))
        clear hcA hcB hsub hs0 hs1
        go_wp2
        go_roundw
        case rel => exact ⟨k + 1, _, by omega, by omega, by go_num, by first | rfl | rw [World.drewN_drewN], HK2⟩
        case measure => simp [intOf] <;> omega
      · have hno : kpB xss k = false := by
          rcases e : kpB xss k with _ | _
          · rfl
          · exact absurd (of_decide_eq_true hb.symm) (hKp.1 e)
        have HKl := Lib.hid (show (kept xss (k + 1)).length = k from by rw [kept_no hno, kept_all HK.out, List.length_range])
        have HCs := Lib.hid (cvals_start (D := D) (n := n) HK.out hno (by omega))
        have hkc : k < c := by omega
        clear hKp hb hj hno
        go_wp2
        go_quiet ((go_at_call 53; first | (with_reducible exact quiet_endN (HEq.out _)) | (with_reducible exact quiet_end0 (HEq.out _))))
        clear hcA hcB hsub hs0 hs1
        have HO0 := Lib.hid (show ((w.drewN q).drewN nq).ownsRow lo 35 1 (.slice (some ⟨g, 0, none⟩) n c) n (cvals D xss n (k + 1)) from by rw [HCs.out]; exact HOwn.out)
        have HG0 := Lib.hid (show w.grownBy ((w.drewN q).drewN nq) (some g) from ⟨rfl, rfl, rfl, Nat.le_refl _, fun _ _ _ => rfl⟩)
        (try rw [World.drewN_drewN])
        (try rw [World.drewN_drewN] at HO0)
        (try rw [World.drewN_drewN] at HG0)
        generalize w.drewN (q + nq) = w1 at *
        go_wp2
        go_loopw [5, 7] (fun a v wr => ∃ kk k2 : Nat, a = .int .i64 kk ∧ v = .int .i64 k2 ∧ 1 ≤ k2 ∧ k + k2 ≤ n ∧ kk + 1 ≤ k + k2 ∧ Hid ((kept xss (k + k2)).length = kk) ∧ Hid (wr.ownsRow lo 35 1 (.slice (some ⟨g, 0, none⟩) n c) n (cvals D xss n (k + k2))) ∧ Hid (w.grownBy wr (some g))) (fun _ v _ => n - (intOf v).toNat)
        case atStart => exact ⟨k, 1, rfl, rfl, Nat.le_refl _, by omega, by omega, HKl, HO0, HG0⟩
        case round =>
          obtain ⟨kk, k2, rfl, rfl, hk21, hk2n, hkk, HL, HO, HG⟩ := hrel
          by_cases hlt2 : k + k2 < n
          · have hcA := World.ownsRow.cellAt HO.out (k + k2) (by omega)
            have hcB := World.ownsRow.cellAt HO.out (k + (k2 - 1)) (by omega)
            have hcC := World.ownsRow.cellAt HO.out kk (by omega)
            have hfC := World.ownsRow.frozenAt HO.out kk
            rw [cvals_high (by rw [HL.out]; omega) hlt2] at hcA
            rw [cvals_high (by rw [HL.out]; omega) (by omega)] at hcB
            rw [cvals_high (by rw [HL.out]; exact Nat.le_refl _) (by omega)] at hcC
            unfold rv at hcA hcB hcC
            have hro : ∀ j, j < n → OwnI wr lo (D j).1 (D j).2.1 (D j).2.2 := fun j hj => OwnI.other_type HOwn.out HG.out (HRw.out j hj)
            have hEq := fun q2 => equalQ_c (wr.drewN q2) ((hro (k + k2) hlt2).rd.drewN q2) ((hro (k + (k2 - 1)) (by omega)).rd.drewN q2) rfl rfl
            have hKp := (show kpB xss (k + k2) = true ↔ (D (k + k2)).2.2 ≠ (D (k + (k2 - 1))).2.2 from by
              unfold kpB
              rw [decide_eq_true_eq, HX.out (k + k2) hlt2, show k + k2 - 1 = k + (k2 - 1) by omega, HX.out (k + (k2 - 1)) (by omega)]
              exact ⟨fun h => by rcases h with h | h; · omega
                                 · exact h, fun h => .inr h⟩)
            have hi0 : (0 : Int) ≤ (k2 : Int) := by omega
            have hi1 : (k2 : Int) < ((n - k : Nat) : Int) := by omega
            have hsub : IntKind.i64.wrap ((k2 : Int) - 1) = ((k2 - 1 : Nat) : Int) := by rw [show (k2 : Int) - 1 = ((k2 - 1 : Nat) : Int) by omega]; exact IntWalk.i64_in _ (by omega)
            have hs0 : (0 : Int) ≤ ((k2 - 1 : Nat) : Int) := by omega
            have hs1 : ((k2 - 1 : Nat) : Int) < ((n - k : Nat) : Int) := by omega
            have hk0 : (0 : Int) ≤ (kk : Int) := by omega
            have hk9 : (kk : Int) < (n : Int) := by omega
            obtain ⟨b, hb⟩ : ∃ b, b = decide ((D (k + k2)).2.2 = (D (k + (k2 - 1))).2.2) := ⟨_, rfl⟩
            rw [← hb] at hEq
            have HEq2 := Lib.hid hEq
            obtain ⟨lk, hlk⟩ : ∃ l, l = (D (k + k2)).2.2.length := ⟨_, rfl⟩
            obtain ⟨lj, hlj⟩ : ∃ l, l = (D (k + (k2 - 1))).2.2.length := ⟨_, rfl⟩
            have HLk := Lib.hid hlk
            rw [← hlk] at hcA HEq2
            rw [← hlj] at hcB HEq2
            clear hEq hlk hlj hro
            generalize hj : k2 - 1 = j at hsub hs0 hs1 hcB HEq2
            rcases b with _ | _
            · have hyes := hKp.2 (of_decide_eq_false hb.symm)
              have HL2 := Lib.hid (show (kept xss (k + (k2 + 1))).length = kk + 1 from by rw [← Nat.add_assoc, kept_yes hyes, List.length_append, HL.out]; rfl)
              obtain ⟨hst, hsg⟩ := World.ownsRow.stored HO.out kk (rv (D (k + k2)))
              have hcy := cvals_yes (D := D) (n := n) hyes (by rw [HL.out]; omega)
              rw [HL.out] at hcy
              rw [hcy] at hst
              have HO2 := Lib.hid (show (wr.setCell ⟨g, kk, none⟩ (.slice (D (k + k2)).1 lk (D (k + k2)).2.1)).ownsRow lo 35 1 (.slice (some ⟨g, 0, none⟩) n c) n (cvals D xss n (k + (k2 + 1))) from by rw [HLk.out]; exact hst)
              have HG2 := Lib.hid (show w.grownBy (wr.setCell ⟨g, kk, none⟩ (.slice (D (k + k2)).1 lk (D (k + k2)).2.1)) (some g) from by rw [HLk.out]; exact grownBy_trans HG.out hsg)
              clear hKp hb hj hyes hst hsg hcy
              go_wp2
              go_quiet ((go_at_call 53; first | (with_reducible exact quiet_endN (HEq2.out _)) | (with_reducible exact quiet_end0 (HEq2.out _)) | exact quiet_end0 (n := 0) (HEq2.out 0)))
              clear hcB hsub hs0 hs1
              have HO3 := Lib.hid (show ((wr.drewN nq).setCell ⟨g, kk, none⟩ (.slice (D (k + k2)).1 lk (D (k + k2)).2.1)).ownsRow lo 35 1 (.slice (some ⟨g, 0, none⟩) n c) n (cvals D xss n (k + (k2 + 1))) from HO2.out)
              have HG3 := Lib.hid (show w.grownBy ((wr.drewN nq).setCell ⟨g, kk, none⟩ (.slice (D (k + k2)).1 lk (D (k + k2)).2.1)) (some g) from grownBy_trans (grownBy_drewN HG.out nq) (World.ownsRow.stored (show (wr.drewN nq).ownsRow lo 35 1 (.slice (some ⟨g, 0, none⟩) n c) n (cvals D xss n (k + k2)) from HO.out) kk _).2)
              go_wp2
              go_roundw
              case rel => exact ⟨kk + 1, k2 + 1, by go_num, by go_num, by omega, by omega, by omega, HL2, HO3, HG3⟩
              case measure => simp [intOf] <;> omega
            · have hno2 : kpB xss (k + k2) = false := by
                rcases e : kpB xss (k + k2) with _ | _
                · rfl
                · exact absurd (of_decide_eq_true hb.symm) (hKp.1 e)
              have HL2 := Lib.hid (show (kept xss (k + (k2 + 1))).length = kk from by rw [← Nat.add_assoc, kept_no hno2]; exact HL.out)
              have HO2 := Lib.hid (show wr.ownsRow lo 35 1 (.slice (some ⟨g, 0, none⟩) n c) n (cvals D xss n (k + (k2 + 1))) from by rw [← Nat.add_assoc, cvals_no hno2]; exact HO.out)
              clear hKp hb hj hno2 hcC hfC
              go_wp2
              go_quiet ((go_at_call 53; first | (with_reducible exact quiet_endN (HEq2.out _)) | (with_reducible exact quiet_end0 (HEq2.out _)) | exact quiet_end0 (n := 0) (HEq2.out 0)))
              clear hcA hcB hsub hs0 hs1
              have HO3 := Lib.hid (show (wr.drewN nq).ownsRow lo 35 1 (.slice (some ⟨g, 0, none⟩) n c) n (cvals D xss n (k + (k2 + 1))) from HO2.out)
              have HG3 := Lib.hid (show w.grownBy (wr.drewN nq) (some g) from grownBy_drewN HG.out nq)
              go_wp2
              go_roundw
              case rel => exact ⟨kk, k2 + 1, rfl, by go_num, by omega, by omega, by omega, HL2, HO3, HG3⟩
              case measure => simp [intOf] <;> omega
          · have hkn : k + k2 = n := by omega
            have HKn := Lib.hid (show (kept xss n).length = kk from by rw [← hkn]; exact HL.out)
            have hkkn : kk < n := by omega
            have hkkc : kk < c := by omega
            have hcl : ∀ ty, (Builtin.clear_ #[22] ty #[.slice (some ⟨g, kk, none⟩) (n - kk) (c - kk)]).run Tryz.prog wr = .ok (.tuple #[]) (wr.setCells g kk (List.replicate (n - kk) (.slice none 0 0))) :=
              fun ty => Lib.run_clear_slice wr _ 35 ty _ Tryz.underlying22 hv rfl rfl g kk _ _ (by omega) (fun j hj => by rw [World.ownsRow.cellAt HO.out (kk + j) (by omega), cvals_high (by rw [HL.out]; omega) (by omega)]; rfl) (fun j hj => World.ownsRow.frozenAt HO.out (kk + j))
            have HFin := Lib.hid (show OwnD (wr.setCells g kk (List.replicate (n - kk) (.slice none 0 0))) lo (some ⟨g, 0, none⟩) c (dsOf D (kept xss n)) ∧ w.grownBy (wr.setCells g kk (List.replicate (n - kk) (.slice none 0 0))) (some g) from by
              obtain ⟨ys, hy1, hy2, hy3⟩ := own_setCells (List.replicate (n - kk) (.slice none 0 0)) kk wr _ HO.out
              have hgt := grownBy_trans HG.out hy3
              have hh := own_head hy1 (show kk ≤ n by omega)
              rw [hy2, ← HL.out, cvals_take, hkn, HKn.out] at hh
              refine ⟨⟨?_, fun d hd => ?_, ?_⟩, hgt⟩
              · rw [show (dsOf D (kept xss n)).length = kk by unfold dsOf; rw [List.length_map]; exact HKn.out]
                unfold dsOf
                rw [List.map_map]
                exact hh
              · obtain ⟨j, hj, rfl⟩ := List.mem_map.1 hd
                exact OwnI.other_type HOwn.out hgt (HRw.out j (kept_lt hj))
              · unfold dsOf
                rw [List.pairwise_map]
                refine List.Pairwise.imp_of_mem ?_ (kept_rise xss n)
                intro i j _ hj hij
                exact HAp.out i j hij (kept_lt hj))
            have HE := Lib.hid hkn
            have hnl : ¬ (k2 : Int) < ((n - k : Nat) : Int) := by omega
            have hnl2 : decide ((k2 : Int) < ((n - k : Nat) : Int)) = false := decide_eq_false hnl
            clear hkn hlt2
            go_wp2
            go_ret
            exact ⟨by rw [HKn.out]; rfl, HFin.out.1, HFin.out.2⟩
    · obtain rfl : k = n := by omega
      obtain ⟨e1, e2, e3⟩ := HSame.out q HK.out
      have HE := Lib.hid (And.intro e1 (And.intro e2 e3))
      clear e1 e2 e3
      go_wp2
      go_ret
      exact ⟨by rw [HE.out.1]; rfl, HE.out.2.1, HE.out.2.2⟩
end Go.Proofs.YtmmkmkbpgcbehaaGreat
