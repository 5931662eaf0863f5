/-
  slices.SortFunc over a slice of lists of the call's own, by slices.Compare. Conditions: those of each theorem.
-/
import Derived.Test.YtmmkmkbpgcbehaaGreatShelfF
import Derived.Test.YtmmkmkbpgcbehaaGreatGa
namespace Go.Proofs.YtmmkmkbpgcbehaaGreat
open Go.RowKit Go.Sort Go.Shelf
set_option linter.unusedVariables false
set_option linter.unusedSimpArgs false

def sortLL (xss : List (List Int)) : List (List Int) := xss.mergeSort fun x y => decide (cmpL x y ≤ 0)
theorem cmpL_anti {a b : List Int} (h1 : cmpL a b ≤ 0) (h2 : cmpL b a ≤ 0) : a = b := by
  have := cmpL_neg a b
  exact cmpL_zero (by omega)
theorem sortLL_pw (xss : List (List Int)) : (sortLL xss).Pairwise fun x y => cmpL x y ≤ 0 := by
  have h := List.pairwise_mergeSort (le := fun (x y : List Int) => decide (cmpL x y ≤ 0)) (fun a b c h1 h2 => by
    rw [decide_eq_true_eq] at *
    exact cmpL_trans h1 h2) (fun a b => by
    rw [Bool.or_eq_true, decide_eq_true_eq, decide_eq_true_eq]
    have := cmpL_neg a b
    omega) xss
  exact h.imp fun h => by simpa using h
theorem sortLL_unique {xss yss : List (List Int)} (hp : yss.Perm xss) (hs : yss.Pairwise fun x y => cmpL x y ≤ 0) : yss = sortLL xss :=
  List.Perm.eq_of_pairwise (fun _ _ _ _ h1 h2 => cmpL_anti h1 h2) hs (sortLL_pw xss) (hp.trans (List.mergeSort_perm xss _).symm)
theorem sortLL_len (xss : List (List Int)) : (sortLL xss).length = xss.length := by simp [sortLL]

section
variable {α : Type} [Inhabited α]
theorem sortWorld_heap (enc : α → Value) (w : World) (g m : Nat) (d : Array α) (os : Array Obj) {k : Nat} (hk : k < w.heap.size) (hne : k ≠ g) : (sortWorld enc w g 0 m d os).heap[k]? = w.heap[k]? := by
  unfold sortWorld
  rw [heap_grow_old _ _ (by simpa using hk)]
  have : g ≠ k := fun e => hne e.symm
  simp [putRow, mapBlock, Sort.ahead, Array.getElem?_modify, this]
theorem sortWorld_here (enc : α → Value) (w : World) (g m : Nat) (d : Array α) (os : Array Obj) {cur : Array Value} {e : TypeId} {fr : Nat × Nat} (hb : w.heap[g]? = some (.cells cur e fr)) :
    (sortWorld enc w g 0 m d os).heap[g]? = some (.cells (putCells enc 0 d cur) e fr) := by
  have hg : g < w.heap.size := (Array.getElem?_eq_some_iff.1 hb).1
  unfold sortWorld
  rw [heap_grow_old _ _ (by simpa using hg)]
  simp [putRow, mapBlock, Sort.ahead, Array.getElem?_modify, hb, onCells]
theorem sortWorld_grown (enc : α → Value) (w : World) (g m : Nat) (d : Array α) (os : Array Obj) : w.grownBy (sortWorld enc w g 0 m d os) (some g) :=
  ⟨rfl, rfl, rfl, by simp [sortWorld], fun k hk hne => sortWorld_heap enc w g m d os hk (fun e => hne (by rw [e]))⟩
theorem put_take (enc : α → Value) (cur : Array Value) (ts : Array α) (h : ts.size ≤ cur.size) : (putCells enc 0 ts cur).toList.take ts.size = ts.toList.map enc := by
  apply List.ext_getElem?
  intro j
  by_cases hj : j < ts.size
  · rw [List.getElem?_take_of_lt hj, Array.getElem?_toList]
    simp [putCells, hj, show j < cur.size by omega]
  · rw [List.getElem?_take_eq_none (by omega), List.getElem?_eq_none (by simp; omega)]
end

theorem sortM_c (w : World) {lo : Nat} {A : Option Addr} {c n : Nat} {R : Spine} {xss : List (List Int)} (h : OwnM w lo A c R xss) (hn : xss.length = n) (hz : n ≤ 1048576) :
    Calls Tryz.prog 57 #[.slice A n c, .func (.func 58) #[] #[]] w fun e w' => e = .returned (.tuple #[]) ∧ (∃ R', OwnM w' lo A c R' (sortLL xss)) ∧ w.grownBy w' (blk A) := by
  subst hn
  rcases Nat.eq_zero_or_pos xss.length with h0 | h0
  · have hx : xss = [] := List.eq_nil_of_length_eq_zero h0
    subst hx
    refine (show Calls Tryz.prog 57 #[.slice A 0 c, .func (.func 58) #[] #[]] w _ from AnyF.slices_SortFunc_none { sortF with } A c _ w).mono fun e w' ⟨he, hw⟩ => ?_
    subst hw
    exact ⟨he, ⟨R, by simpa [sortLL] using h⟩, ⟨rfl, rfl, rfl, Nat.le_refl _, fun _ _ _ => rfl⟩⟩
  · rcases h.own.2 with ⟨e, hl⟩ | ⟨g, cap, cur, e, hg, hh, hc, hm, hs, ht⟩
    · omega
    · injection e with e1 e2 e3
      subst e1 e3
      let α := { k : Nat // k < xss.length }
      letI : Inhabited α := ⟨⟨0, h0⟩⟩
      let enc : α → Value := fun k => .slice (R k.1).1 (row xss k.1).length (R k.1).2
      let cf : α → α → Int := fun x y => cmpL (row xss x.1) (row xss y.1)
      let d : Array α := Array.ofFn fun i : Fin xss.length => (⟨i.1, i.2⟩ : α)
      have hds : d.size = xss.length := by simp [d]
      have hlt : g < w.heap.size := (Array.getElem?_eq_some_iff.1 hh).1
      have hO : SWO (ltOf cf) := by
        refine ⟨fun x => ?_, fun x y z h1 h2 => ?_, fun x y z h1 h2 => ?_⟩
        · show decide (cmpL _ _ < 0) = false
          rw [cmpL_self]; rfl
        · have h1' : cmpL (row xss x.1) (row xss y.1) < 0 := of_decide_eq_true h1
          have h2' : cmpL (row xss y.1) (row xss z.1) < 0 := of_decide_eq_true h2
          refine decide_eq_true ?_
          have h3 := cmpL_trans (show cmpL (row xss x.1) (row xss y.1) ≤ 0 by omega) (show cmpL (row xss y.1) (row xss z.1) ≤ 0 by omega)
          rcases Int.lt_or_eq_of_le h3 with h4 | h4
          · exact h4
          · have h5 := cmpL_zero h4
            rw [h5] at h1'
            have := cmpL_neg (row xss z.1) (row xss y.1)
            omega
        · have h1' : ¬ cmpL (row xss x.1) (row xss y.1) < 0 := of_decide_eq_false h1
          have h2' : ¬ cmpL (row xss y.1) (row xss z.1) < 0 := of_decide_eq_false h2
          refine decide_eq_false ?_
          have a1 := cmpL_neg (row xss x.1) (row xss y.1)
          have a2 := cmpL_neg (row xss y.1) (row xss z.1)
          have h3 := cmpL_trans (show cmpL (row xss z.1) (row xss y.1) ≤ 0 by omega) (show cmpL (row xss y.1) (row xss x.1) ≤ 0 by omega)
          have a3 := cmpL_neg (row xss x.1) (row xss z.1)
          show ¬ cmpL (row xss x.1) (row xss z.1) < 0
          omega
      have hd : ∀ j, (hj : j < xss.length) → d[j]! = ⟨j, hj⟩ := fun j hj => by
        rw [getElem!_pos d j (by omega)]
        simp [d]
      have hH : Holds enc w g 0 d := fun j hj => by
        have hj' : j < xss.length := by omega
        obtain ⟨g1, eg, _, _, hc1, hf1⟩ := h.at_ hj'
        injection eg with eg
        injection eg with eg
        subst eg
        rw [hd j hj', Nat.zero_add]
        exact ⟨hc1, hf1⟩
      have hgrow : ∀ (m : Nat) (os : Array Obj) (dk : Array α) (k : Nat), k < xss.length → OwnI (sortWorld enc w g 0 m dk os) lo (R k).1 (R k).2 (row xss k) := fun m os dk k hk =>
        (h.rows k hk).grown (sortWorld_grown enc w g m dk os) (fun g2 e2 e3 => by
          injection e3 with e3
          subst e3
          exact h.outer_ne hk rfl e2)
      have hcmp : CmpLays1 Tryz.prog 58 #[] enc cf g 0 d.size w := fun m os dk _ x y =>
        (Compare_c (sortWorld enc w g 0 m dk os) (R x.1).1 (R y.1).1 (row xss x.1).length (row xss y.1).length (R x.1).2 (R y.1).2 (row xss x.1) (row xss y.1) (hgrow m os dk x.1 x.2).rd rfl (hgrow m os dk y.1 y.2).rd rfl).mono fun e w' ⟨he, hw⟩ => ⟨he, 0, #[], by rw [grow_empty]; exact hw.symm⟩
      have hR := Any.slices_SortFunc sortF enc (fun _ => rfl) cf hO 58 #[] g 0 c d w (enters_of Tryz.func58 (by kernel_rfl) rfl) hcmp hH hlt (by omega)
      rw [hds] at hR
      refine (show Calls Tryz.prog 57 #[.slice (some ⟨g, 0, none⟩) xss.length c, .func (.func 58) #[] #[]] w _ from hR).mono fun e w' ⟨he, d', m, os, hP, hS, hw⟩ => ?_
      subst hw
      refine ⟨he, ?_, sortWorld_grown enc w g m d' os⟩
      obtain ⟨hsz, _, hperm⟩ := hP
      have hsz' : d'.size = xss.length := by omega
      have hperm2 : d'.toList.Perm d.toList := by
        have a1 : (d'.extract 0 xss.length) = d' := by rw [← hsz']; simp
        have a2 : (d.extract 0 xss.length) = d := by rw [← hds]; simp
        rw [a1, a2] at hperm
        exact hperm
      let yss : List (List Int) := d'.toList.map fun k => row xss k.1
      have hylen : yss.length = xss.length := by simp [yss, hsz']
      have hdl : d.toList.map (fun k => row xss k.1) = xss := by
        apply List.ext_getElem
        · simp [hds]
        · intro j h1 h2
          simp only [List.getElem_map, Array.getElem_toList]
          have := hd j h2
          rw [getElem!_pos d j (by omega)] at this
          rw [this, row_eq h2]
      have hy : yss = sortLL xss := by
        refine sortLL_unique ?_ ?_
        · have := hperm2.map (fun k : α => row xss k.1)
          rw [hdl] at this
          exact this
        · rw [List.pairwise_iff_getElem]
          intro i j hi hj hij
          have hi' : i < d'.size := by omega
          have hj' : j < d'.size := by omega
          have h1 := hS i j (Nat.zero_le _) hij (by omega)
          rw [getElem!_pos d' i hi', getElem!_pos d' j hj'] at h1
          have h2 : ¬ cmpL (row xss d'[j].1) (row xss d'[i].1) < 0 := of_decide_eq_false h1
          have h3 := cmpL_neg (row xss d'[i].1) (row xss d'[j].1)
          simp only [yss, List.getElem_map, Array.getElem_toList]
          omega
      have hrow : ∀ k, (hk : k < xss.length) → row yss k = row xss (d'[k]!).1 := fun k hk => by
        rw [row_eq (by omega), getElem!_pos d' k (by omega)]
        simp [yss]
      rw [← hy]
      refine ⟨fun k => R (d'[k]!).1, ⟨⟨?_, .inr ⟨g, c, _, rfl, hg, sortWorld_here enc w g m d' os hh, by omega, hm, by simp [putCells, hs], ?_⟩⟩, fun k hk => ?_, fun i j hij hj g2 e2 e3 => ?_⟩⟩
      · simp
      · rw [Nat.mul_one] at *
        have hpt := put_take enc cur d' (by omega)
        rw [hsz'] at hpt
        rw [hylen, hpt]
        apply List.ext_getElem
        · simp [hsz']
        · intro k h1 h2
          have hk : k < xss.length := by simpa [hsz'] using h1
          simp only [List.getElem_map, List.getElem_range, Array.getElem_toList]
          rw [hrow k hk, getElem!_pos d' k (by omega)]
      · rw [hylen] at hk
        rw [hrow k hk]
        exact hgrow m os d' (d'[k]!).1 (d'[k]!).2
      · rw [hylen] at hj
        have hnd : d'.toList.Nodup := by
          refine (hperm2.nodup_iff).2 ?_
          rw [List.Nodup, List.pairwise_iff_getElem]
          intro a b ha hb hab e
          simp only [Array.getElem_toList] at e
          have ha' : a < xss.length := by simpa [hds] using ha
          have hb' : b < xss.length := by simpa [hds] using hb
          have e1 := hd a ha'
          have e4 := hd b hb'
          rw [getElem!_pos d a (by omega)] at e1
          rw [getElem!_pos d b (by omega)] at e4
          rw [e1, e4] at e
          injection e with e
          omega
        have hne : (d'[i]!).1 ≠ (d'[j]!).1 := fun e => by
          rw [List.Nodup, List.pairwise_iff_getElem] at hnd
          have := hnd i j (by simp; omega) (by simp; omega) hij
          rw [getElem!_pos d' i (by omega), getElem!_pos d' j (by omega)] at e
          exact this (Subtype.ext (by simpa using e))
        rcases Nat.lt_or_gt_of_ne hne with hlt2 | hlt2
        · exact h.apart _ _ hlt2 (d'[j]!).2 g2 e2 e3
        · exact h.apart _ _ hlt2 (d'[i]!).2 g2 e3 e2
end Go.Proofs.YtmmkmkbpgcbehaaGreat
