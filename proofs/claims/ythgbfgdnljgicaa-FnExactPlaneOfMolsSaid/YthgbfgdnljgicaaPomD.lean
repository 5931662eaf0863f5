/-
  The append of a whole slice of planes, and slices.Concat of two of them. Conditions: those of each theorem.
-/
import Derived.Test.YthgbfgdnljgicaaTri
import Derived.Test.YthgbfgdnljgicaaSquare
import Derived.Test.YthgbfgdnljgicaaShelfH
import Derived.Laws.AppendOwnNone
import Derived.Deep.RegionHeld3
namespace Go.Proofs.Ythgbfgdnljgicaa
open Go.RowKit
set_option linter.unusedVariables false
set_option linter.unusedSimpArgs false

/-- The cells of a slice of rows. -/
def valsP (R : Spine3) (xss : List (List (List Int))) : List Value := (List.range xss.length).map fun k => .slice (R k).1 (pln xss k).length (R k).2.1
theorem valsP_len (R : Spine3) (xss : List (List (List Int))) : (valsP R xss).length = xss.length := by simp [valsP]
theorem valsP_get {R : Spine3} {xss : List (List (List Int))} {k : Nat} (h : k < xss.length) : (valsP R xss)[k]? = some (.slice (R k).1 (pln xss k).length (R k).2.1) := by simp [valsP, h]
theorem run_append_noneP {w : World} {base n : Nat} {v : Value} {vals : List Value} (ty : TypeId) (d : Nat) (hown : w.ownsRow base 24 1 v n vals) :
    (Builtin.append_ #[22, 22] ty #[v, .slice none 0 d]).run Try.prog w = .ok v w := by
  obtain ⟨i, hi, _⟩ := info_parts infoM
  rcases hown.2 with ⟨rfl, rfl⟩ | ⟨g, cap, cur, rfl, _, _, hnc, _⟩
  · simp [Builtin.append_, run_underlying Try.underlying22, sizeOf, typeInfo, hi, Builtin.lenOf, Builtin.firstCells]
  · simp [Builtin.append_, run_underlying Try.underlying22, sizeOf, typeInfo, hi, Builtin.lenOf, Builtin.firstCells, hnc, storeCells]
theorem run_appendP {w : World} (ty : TypeId) (lo : Nat) (A : Option Addr) (c n : Nat) (vals : List Value) (B : Option Addr) (m d : Nat) (S : Spine3) (yss : List (List (List Int))) (hown : w.ownsRow lo 24 1 (.slice A n c) n vals)
    (hr : RdL w B d S yss) (hm : yss.length = m) (hlen : n + m ≤ 4398046511104) (hlo : lo ≤ w.heap.size) :
    ∃ A' c' w', (Builtin.append_ #[22, 22] ty #[.slice A n c, .slice B m d]).run Try.prog w = .ok (.slice A' (n + m) c') w' ∧ w'.ownsRow lo 24 1 (.slice A' (n + m) c') (n + m) (vals ++ valsP S yss) ∧ w.grownBy w' (blk A) ∧ (blk A' = blk A ∨ blk A' = some w.heap.size) := by
  subst hm
  rcases B with _ | ad
  · have h0 : yss.length = 0 := by
      rcases Nat.eq_zero_or_pos yss.length with h | h
      · exact h
      · obtain ⟨b, off, e, _⟩ := hr.at_ 0 h
        cases e
    rw [h0]
    refine ⟨A, c, w, run_append_noneP ty d hown, ?_, ⟨rfl, rfl, rfl, Nat.le_refl _, fun _ _ _ => rfl⟩, .inl rfl⟩
    have : valsP S yss = [] := List.eq_nil_of_length_eq_zero (by rw [valsP_len]; exact h0)
    rw [this, List.append_nil]
    exact hown
  · obtain ⟨i, hi, hz, hz1, hz2⟩ := info_parts infoM
    obtain ⟨v', w', hr', h2, h3, _, h5⟩ := run_append_own_at (P := Try.prog) w lo 22 ty 24 i _ 1 24 Try.underlying22 hi hz hz1 hz2 rfl (by decide) _ _ _ hown ad yss.length d (valsP S yss) (by rw [valsP_len]; omega) (by
      intro j u hj
      have hjl : j < yss.length := by
        rcases Nat.lt_or_ge j yss.length with h | h
        · exact h
        · rw [List.getElem?_eq_none (by rw [valsP_len]; exact h)] at hj; cases hj
      rw [valsP_get hjl] at hj
      have hj := Option.some.inj hj
      subst hj
      obtain ⟨b, off, e, _, hc⟩ := hr.at_ j hjl
      have e := Option.some.inj e
      subst e
      have h9 : (Addr.mk b off none).add j = ⟨b, off + j, none⟩ := by simp [Addr.add]
      rw [h9]
      exact hc) (by intro u hu; obtain ⟨y, _, rfl⟩ := List.mem_map.1 hu; rfl) (by unfold maxLen; omega) (by omega) hlo
    obtain ⟨A', c', rfl⟩ := slice_of_ownP h2
    rw [ownBlock_slice] at h3 h5
    rw [ownBlock_slice] at h5
    exact ⟨A', c', w', hr', h2, h3, h5⟩
where
  slice_of_ownP {w : World} {base n : Nat} {v : Value} {xs : List Value} (h : w.ownsRow base 24 1 v n xs) : ∃ A c, v = .slice A n c := by
    rcases h.2 with ⟨rfl, rfl⟩ | ⟨g, cap, cur, rfl, _⟩
    · exact ⟨none, 0, rfl⟩
    · exact ⟨some ⟨g, 0, none⟩, cap, rfl⟩

section
variable {ops : Array Oper} {rest : List Oper} {o : Oper} {a : Act} {K : Act → World → Prop} {Q : Exit → Act → World → Prop} {E : Prop}
theorem stepP_append {w : World} (hgd : o.guard = none) (s x : Operand) (ho : o.op = .call { callee := .builtin .append, args := #[s, x], argTypes := #[22, 22] })
    (lo : Nat) (A : Option Addr) (c n : Nat) (vals : List Value) (B : Option Addr) (m d : Nat) (S : Spine3) (yss : List (List (List Int))) (hs : a.eval s = .slice A n c) (hx : a.eval x = .slice B m d)
    (hown : w.ownsRow lo 24 1 (.slice A n c) n vals) (hr : RdL w B d S yss) (hm : yss.length = m) (hlen : n + m ≤ 4398046511104) (hlo : lo ≤ w.heap.size)
    (h : ∀ A' c' w', w'.ownsRow lo 24 1 (.slice A' (n + m) c') (n + m) (vals ++ valsP S yss) → w.grownBy w' (blk A) → (blk A' = blk A ∨ blk A' = some w.heap.size) → K (a.put o.dst (.slice A' (n + m) c')) w') :
    if Region.wanted o (yielded ops a.tmps) = true then Oper.wp Try.prog o a w K Q else E := by
  have hw : Region.wanted o (yielded ops a.tmps) = true := by simp [Region.wanted, hgd]
  rw [if_pos hw]
  obtain ⟨A', c', w', hr', h2, h3, h5⟩ := run_appendP o.type lo A c n vals B m d S yss hown hr hm hlen hlo
  unfold Oper.wp execOp
  simp only [ho, resolve, invoke, builtin, Sem.run_bind, Sem.run_pure, Result.andThen_ok, List.map_toArray, List.map_cons, List.map_nil, hs, hx, hr']
  exact h A' c' w' h2 h3 h5
theorem wpP_append {w : World} (hgd : o.guard = none) (s x : Operand) (ho : o.op = .call { callee := .builtin .append, args := #[s, x], argTypes := #[22, 22] })
    (lo : Nat) (A : Option Addr) (c n : Nat) (vals : List Value) (B : Option Addr) (m d : Nat) (S : Spine3) (yss : List (List (List Int))) (hs : a.eval s = .slice A n c) (hx : a.eval x = .slice B m d)
    (hown : w.ownsRow lo 24 1 (.slice A n c) n vals) (hr : RdL w B d S yss) (hm : yss.length = m) (hlen : n + m ≤ 4398046511104) (hlo : lo ≤ w.heap.size)
    (h : ∀ A' c' w', w'.ownsRow lo 24 1 (.slice A' (n + m) c') (n + m) (vals ++ valsP S yss) → w.grownBy w' (blk A) → (blk A' = blk A ∨ blk A' = some w.heap.size) → wpList Try.prog ops Q rest (a.put o.dst (.slice A' (n + m) c')) w') :
    wpList Try.prog ops Q (o :: rest) a w := by
  refine wpList_plain hgd fun K hK => ?_
  obtain ⟨A', c', w', hr', h2, h3, h5⟩ := run_appendP o.type lo A c n vals B m d S yss hown hr hm hlen hlo
  unfold Oper.wp execOp
  simp only [ho, resolve, invoke, builtin, Sem.run_bind, Sem.run_pure, Result.andThen_ok, List.map_toArray, List.map_cons, List.map_nil, hs, hx, hr']
  exact hK _ _ (h A' c' w' h2 h3 h5)
end

/-- An owned row of slices lies at its base or behind. -/
theorem below_blkP {w w' : World} {lo B : Nat} {A : Option Addr} {c n : Nat} {vals : List Value} (ho : w.ownsRow lo 24 1 (.slice A n c) n vals) (hg : w.grownBy w' (blk A)) (hB : B ≤ lo) (hs : B ≤ w.heap.size) : Below B w w' :=
  (Below.refl B w).grown hg hs fun g e => by
    rcases ho.2 with ⟨e1, _⟩ | ⟨g1, cap, cur, e1, hl1, _⟩
    · injection e1 with e1; rw [e1] at e; simp [blk] at e
    · injection e1 with e1; rw [e1, blk_some] at e; injection e with e; omega
theorem ownsP_below {w w' : World} {lo n c : Nat} {A : Option Addr} {vals : List Value} (h : w.ownsRow lo 24 1 (.slice A n c) n vals) (hb : Below w.heap.size w w') : w'.ownsRow lo 24 1 (.slice A n c) n vals := by
  refine ⟨h.1, ?_⟩
  rcases h.2 with hn | ⟨g, cap, cur, e, hg, hh, r⟩
  · exact .inl hn
  · exact .inr ⟨g, cap, cur, e, hg, by rw [hb.block g (Array.getElem?_eq_some_iff.1 hh).1]; exact hh, r⟩
def joinP (R S : Spine3) (n : Nat) : Spine3 := fun k => if k < n then R k else S (k - n)
theorem RdL.joined {w : World} {lo c : Nat} {A : Option Addr} {R S : Spine3} {xss yss : List (List (List Int))} (h : w.ownsRow lo 24 1 (.slice A (xss.length + yss.length) c) (xss.length + yss.length) (valsP R xss ++ valsP S yss))
    (hx : ∀ k, k < xss.length → RdM w (R k).1 (R k).2.1 (R k).2.2 (pln xss k)) (hy : ∀ k, k < yss.length → RdM w (S k).1 (S k).2.1 (S k).2.2 (pln yss k)) :
    RdL w A c (joinP R S xss.length) (xss ++ yss) := by
  have hrow : ∀ k, pln (xss ++ yss) k = if k < xss.length then pln xss k else pln yss (k - xss.length) := fun k => by
    by_cases h1 : k < xss.length
    · rw [if_pos h1]; simp [pln, List.getElem?_append_left h1]
    · rw [if_neg h1]; simp [pln, List.getElem?_append_right (Nat.le_of_not_lt h1)]
  have hrows : ∀ k, k < (xss ++ yss).length → RdM w (joinP R S xss.length k).1 (joinP R S xss.length k).2.1 (joinP R S xss.length k).2.2 (pln (xss ++ yss) k) := fun k hk => by
    rw [List.length_append] at hk
    rw [hrow]
    unfold joinP
    by_cases h1 : k < xss.length
    · rw [if_pos h1, if_pos h1]; exact hx k h1
    · rw [if_neg h1, if_neg h1]; exact hy _ (by omega)
  rcases h.2 with ⟨e, h0⟩ | ⟨g, cap, cur, e, hg, hh, hc, hm, _, _⟩
  · injection e with e1 e2 e3
    subst e1 e3
    exact ⟨by rw [List.length_append]; omega, by unfold maxLen; omega, fun k hk => absurd hk (by rw [List.length_append]; omega), hrows⟩
  · injection e with e1 e2 e3
    subst e1 e3
    refine ⟨by rw [List.length_append]; exact hc, hm, fun k hk => ⟨g, 0, rfl, (Array.getElem?_eq_some_iff.1 hh).1, ?_⟩, hrows⟩
    rw [List.length_append] at hk
    rw [Nat.zero_add, World.ownsRow.cellAt h k (by omega), hrow]
    unfold joinP
    by_cases h1 : k < xss.length
    · rw [if_pos h1, if_pos h1, List.getElem?_append_left (by rw [valsP_len]; exact h1), valsP_get h1]
    · rw [if_neg h1, if_neg h1, List.getElem?_append_right (by rw [valsP_len]; omega), valsP_len, valsP_get (by omega)]
theorem growP_c (w : World) (k : Nat) (hk : k ≤ 4000) :
    Calls Try.prog 37 #[.slice none 0 0, .int .i64 (k : Int)] w fun e w' => (∃ A c, e = .returned (.slice A 0 c) ∧ w'.ownsRow w.heap.size 24 1 (.slice A 0 c) 0 []) ∧ Below w.heap.size w w' := by
  rcases Nat.eq_zero_or_pos k with h0 | h0
  · subst h0
    refine (show Calls Try.prog 37 #[.slice none 0 0, .int .i64 ((0 : Nat) : Int)] w _ from Any8.slices_Grow_room growL none 0 0 0 w (by omega) (by omega) (by omega) (by omega)).mono fun e w' ⟨he, hw⟩ => ?_
    subst hw
    exact ⟨⟨none, 0, he, by simp, .inl ⟨rfl, rfl⟩⟩, Below.refl _ _⟩
  · obtain ⟨i, hi, hz, hz1, hz2⟩ := info_parts infoM
    refine (show Calls Try.prog 37 #[.slice none 0 0, .int .i64 (k : Int)] w _ from Any8.slices_Grow_grow growL i _ hi hz (by omega) none 0 0 k [] w (by omega) (by omega) (by rw [hz2]; omega) (by omega) (by simp) (fun _ => rfl) (fun a e => by cases e)).mono fun e w' ⟨he, hw⟩ => ?_
    have hG := grownCap_ge w (0 + k) 0 (growL_ren.t 25)
    have hG2 := grownCap_le_maxLen w (0 + k) 0 (growL_ren.t 25) (by unfold maxLen; omega)
    refine ⟨⟨_, _, he, by simp, .inr ⟨w.heap.size, _, _, rfl, Nat.le_refl _, by rw [hw]; exact heap_alloc_new _ _, Nat.zero_le _, hG2, ?_, by simp⟩⟩, by rw [hw]; exact (Below.refl w.heap.size w).drew.alloc (Nat.le_refl _) _⟩
    have h1 : (Builtin.zeroCells (Value.slice none 0 0).cells (0 + k - 0)).size = k := by simp [Builtin.zeroCells, Value.cells]
    have h2 : ∀ q, (Builtin.zeroCells (Value.slice none 0 0).cells q).size = q := fun q => by simp [Builtin.zeroCells, Value.cells]
    simp only [Array.size_append, h2]
    rw [Nat.zero_add] at hG ⊢
    simp
    omega

def cpN (n m : Nat) (k : Nat) : Nat := if k = 0 then n else m
def cpS (n m : Nat) (k : Nat) : Nat := if k = 0 then 0 else if k = 1 then n else n + m

set_option maxRecDepth 100000 in
set_option maxHeartbeats 4000000 in
theorem ConcatP_c (w : World) (G : Nat) (A B : Option Addr) (n m c d : Nat) (R S : Spine3) (xss yss : List (List (List Int))) (h0 : w.cell? ⟨G, 0, none⟩ = some (.slice A n c)) (h1 : w.cell? ⟨G, 1, none⟩ = some (.slice B m d))
    (hr : RdL w A c R xss) (hn : xss.length = n) (hs : RdL w B d S yss) (hm : yss.length = m) (hz : n ≤ 1000 ∧ m ≤ 1000) :
    Calls Try.prog 23 #[.slice (some ⟨G, 0, none⟩) 2 2] w fun e w' => (∃ A' c', e = .returned (.slice A' (n + m) c') ∧ RdL w' A' c' (joinP R S n) (xss ++ yss)) ∧ Below w.heap.size w w' := by
  have hG : G < w.heap.size := cell_size h0
  obtain ⟨ad, had⟩ : ∃ ad : Nat → Option Addr, ad = fun k => if k = 0 then A else B := ⟨_, rfl⟩
  obtain ⟨cd, hcd⟩ : ∃ cd : Nat → Nat, cd = fun k => if k = 0 then c else d := ⟨_, rfl⟩
  obtain ⟨sp, hsp⟩ : ∃ sp : Nat → Spine3, sp = fun k => if k = 0 then R else S := ⟨_, rfl⟩
  obtain ⟨rw_, hrw⟩ : ∃ rw_ : Nat → List (List (List Int)), rw_ = fun k => if k = 0 then xss else yss := ⟨_, rfl⟩
  obtain ⟨vl, hvl⟩ : ∃ vl : Nat → List Value, vl = fun k => if k = 0 then [] else if k = 1 then valsP R xss else valsP R xss ++ valsP S yss := ⟨_, rfl⟩
  have HCe := Lib.hid (show ∀ k, k < 2 → w.cell? ⟨G, k, none⟩ = some (.slice (ad k) (cpN n m k) (cd k)) from fun k hk => by
    rw [had, hcd]
    rcases Nat.eq_zero_or_pos k with e | e
    · subst e; exact h0
    · obtain rfl : k = 1 := by omega
      exact h1)
  have HRd := Lib.hid (show ∀ k, k < 2 → RdL w (ad k) (cd k) (sp k) (rw_ k) ∧ (rw_ k).length = cpN n m k from fun k hk => by
    rw [had, hcd, hsp, hrw]
    rcases Nat.eq_zero_or_pos k with e | e
    · subst e; exact ⟨hr, hn⟩
    · obtain rfl : k = 1 := by omega
      exact ⟨hs, hm⟩)
  have HVl := Lib.hid (show ∀ k, k < 2 → vl (k + 1) = vl k ++ valsP (sp k) (rw_ k) from fun k hk => by
    rw [hvl, hsp, hrw]
    rcases Nat.eq_zero_or_pos k with e | e
    · subst e; rfl
    · obtain rfl : k = 1 := by omega
      rfl)
  have HSm := Lib.hid (show ∀ k, k < 2 → cpS n m (k + 1) = cpS n m k + cpN n m k from fun k hk => by
    unfold cpS cpN
    rcases Nat.eq_zero_or_pos k with e | e
    · subst e; simp
    · obtain rfl : k = 1 := by omega
      simp)
  have HNb := Lib.hid (show ∀ k, cpN n m k ≤ 1000 from fun k => by unfold cpN; split <;> omega)
  have HSb := Lib.hid (show ∀ k, cpS n m k ≤ 2000 from fun k => by unfold cpS; split; omega; split <;> omega)
  have HV0 := Lib.hid (show vl 0 = [] by rw [hvl]; rfl)
  have HV2 := Lib.hid (show vl 2 = valsP R xss ++ valsP S yss by rw [hvl]; rfl)
  have HRx := Lib.hid hr
  have HRy := Lib.hid hs
  have HNx := Lib.hid hn
  have HNy := Lib.hid hm
  have HS0 := Lib.hid (show cpS n m 0 = 0 from rfl)
  have HS2 := Lib.hid (show cpS n m 2 = n + m from rfl)
  clear had hcd hsp hrw hvl h0 h1 hr hn hs hm
  generalize hnN : cpN n m = nN at *
  generalize hnS : cpS n m = nS at *
  have HnN := Lib.hid hnN
  have HnS := Lib.hid hnS
  clear hnN hnS
  go_enter Try.func23, Try.ntmps23
  go_wp2
  go_loopw [3, 11] (fun s v wr => ∃ k t : Nat, k ≤ 2 ∧ v = .int .i64 k ∧ s = .int .i64 t ∧ Hid (nS k = t) ∧ Hid (wr = w)) (fun _ v _ => 2 - (intOf v).toNat)
  case atStart => exact ⟨0, 0, by omega, rfl, rfl, HS0, Lib.hid rfl⟩
  case round =>
    obtain ⟨k, t, hk, rfl, rfl, HT, HW⟩ := hrel
    have hwr := HW.out
    by_cases hlt : k < 2
    · have hcc := HCe.out k hlt
      rw [← hwr] at hcc
      have hb := HNb.out k
      have ht : t ≤ 2000 := by have := HSb.out k; rw [HT.out] at this; exact this
      have HSu := Lib.hid (HSm.out k hlt)
      have hk0 : (0 : Int) ≤ (k : Int) := by omega
      have hk2 : (k : Int) < 2 := by omega
      clear hwr
      generalize nN k = q at *
      have hneg : decide (((t : Int) + (q : Int)) < 0) = false := decide_eq_false (by omega)
      have hneg2 : ¬ ((t : Int) + (q : Int)) < 0 := by omega
      go_wp2
      go_roundw
      case rel => exact ⟨k + 1, t + q, by omega, by go_num, by go_num, Lib.hid (by rw [HSu.out, HT.out]), HW⟩
      case measure => simp [intOf]; omega
    · obtain rfl : k = 2 := by omega
      subst hwr
      have ht : t ≤ 2000 := by have := HSb.out 2; rw [HT.out] at this; exact this
      have HGr := Lib.hid (growP_c wr t (by omega))
      go_wp2_with fail
      refine (HGr.out).mono ?_
      rintro e w2 ⟨⟨A2, c2, rfl, ho2⟩, hb2⟩
      have HO2 := Lib.hid (show w2.ownsRow wr.heap.size 24 1 (.slice A2 0 c2) 0 (vl 0) from by rw [HV0.out]; exact ho2)
      have HB2 := Lib.hid hb2
      clear ho2 hb2
      obtain ⟨wo, rfl⟩ : ∃ wo, wo = wr := ⟨_, rfl⟩
      go_wp2
      go_loopw [6, 27] (fun o v wr => ∃ (k t : Nat) (A' : Option Addr) (c' : Nat), k ≤ 2 ∧ v = .int .i64 k ∧ o = .slice A' t c' ∧ Hid (nS k = t) ∧ Hid (wr.ownsRow wo.heap.size 24 1 (.slice A' t c') t (vl k)) ∧ Hid (Below wo.heap.size wo wr)) (fun _ v _ => 2 - (intOf v).toNat)
      case atStart => exact ⟨0, 0, _, _, by omega, rfl, rfl, HS0, HO2, HB2⟩
      case round =>
        obtain ⟨k, t, A', c', hk, rfl, rfl, HT, HO, HB⟩ := hrel
        have hsz := HB.out.size
        by_cases hlt : k < 2
        · have hcc := (HB.out.cell (p := ⟨G, k, none⟩) hG).trans (HCe.out k hlt)
          have hb := HNb.out k
          have ht : t ≤ 2000 := by have := HSb.out k; rw [HT.out] at this; exact this
          have HSu := Lib.hid (HSm.out k hlt)
          obtain ⟨hrk, hlk⟩ := HRd.out k hlt
          have HRk := Lib.hid (hrk.below HB.out)
          have HLk := Lib.hid hlk
          have HVu := Lib.hid (HVl.out k hlt)
          have hk0 : (0 : Int) ≤ (k : Int) := by omega
          have hk2 : (k : Int) < 2 := by omega
          clear hrk hlk
          generalize nN k = q at *
          generalize ad k = adk at *
          generalize cd k = cdk at *
          go_wp2_with (at_builtin; refine wpP_append rfl _ _ rfl wo.heap.size A' c' t (vl k) adk q cdk (sp k) (rw_ k) rfl rfl HO.out HRk.out HLk.out (by omega) hsz ?_; intro A8 c8 w8 ho8 hg8 ha8)
          have HO8 := Lib.hid (show w8.ownsRow wo.heap.size 24 1 (.slice A8 (t + q) c8) (t + q) (vl (k + 1)) from by rw [HVu.out]; exact ho8)
          have HB8 := Lib.hid (HB.out.trans (below_blkP HO.out hg8 (Nat.le_refl _) hsz))
          clear ho8 hg8 ha8
          go_wp2
          go_roundw
          case rel => exact ⟨k + 1, t + q, A8, c8, by omega, by go_num, rfl, Lib.hid (by rw [HSu.out, HT.out]), HO8, HB8⟩
          case measure => simp [intOf]; omega
        · obtain rfl : k = 2 := by omega
          have HTe := Lib.hid (show t = n + m from HT.out.symm.trans HS2.out)
          have HRf := Lib.hid (show RdL wr A' c' (joinP R S n) (xss ++ yss) from by
            have h2 := HO.out
            rw [HV2.out, HTe.out, ← HNx.out, ← HNy.out] at h2
            rw [← HNx.out]
            exact RdL.joined h2 (fun k hk => ((HRx.out.below HB.out).rows k hk)) (fun k hk => ((HRy.out.below HB.out).rows k hk)))
          go_wp2
          go_ret
          exact ⟨⟨A', c', by rw [HTe.out]; rfl, HRf.out⟩, HB.out⟩
end Go.Proofs.Ythgbfgdnljgicaa
