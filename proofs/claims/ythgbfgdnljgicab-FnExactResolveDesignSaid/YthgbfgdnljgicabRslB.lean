/-
  The program's search for a resolution: a block is taken into the last class, or out of it. Conditions: those of each theorem.
-/
import Derived.Test.YthgbfgdnljgicabRslA
import Derived.Test.YthgbfgdnljgicabStepM
namespace Go.Proofs.Ythgbfgdnljgicab
open Go.RowKit
set_option linter.unusedVariables false
set_option linter.unusedSimpArgs false

theorem typed_keep {w w' : World} {b : Nat} {cur : Array Value} {T : TypeId} {fz : Nat × Nat} (hg : w.grownBy w' (some b)) (hb : w.heap[b]? = some (.cells cur T fz)) {g : Nat} {cur' : Array Value} {T' : TypeId} {fz' : Nat × Nat}
    (h : w.heap[g]? = some (.cells cur' T' fz')) (hne : T' ≠ T) : w'.heap[g]? = w.heap[g]? :=
  hg.block g (Array.getElem?_eq_some_iff.1 h).1 (fun e => by
    injection e with e
    subst e
    rw [hb] at h
    injection h with h
    injection h with _ e _
    exact hne e.symm)
theorem own_keep {w w' : World} {lo n c : Nat} {e : TypeId} {A : Option Addr} {xs : List Value} (h : w.ownsRow lo e 1 (.slice A n c) n xs) (hk : ∀ (g : Nat) (cur : Array Value) (fz : Nat × Nat), w.heap[g]? = some (Obj.cells cur e fz) → w'.heap[g]? = w.heap[g]?) : w'.ownsRow lo e 1 (.slice A n c) n xs := by
  refine ⟨h.1, ?_⟩
  rcases h.2 with hn | ⟨g, cap, cur, e1, hg, hh, r⟩
  · exact .inl hn
  · exact .inr ⟨g, cap, cur, e1, hg, by rw [hk g _ _ hh]; exact hh, r⟩
theorem OwnM.keep_ {w w' : World} {lo c : Nat} {A : Option Addr} {R : Spine} {X : List (List Int)} (h : OwnM w lo A c R X) (hs : ∀ (g : Nat) (cur : Array Value) (fz : Nat × Nat), w.heap[g]? = some (Obj.cells cur 43 fz) → w'.heap[g]? = w.heap[g]?) (hi : ∀ (g : Nat) (cur : Array Value) (fz : Nat × Nat), w.heap[g]? = some (Obj.cells cur 2 fz) → w'.heap[g]? = w.heap[g]?) : OwnM w' lo A c R X :=
  ⟨own_keep h.own hs, fun k hk => own_keep (h.rows k hk) hi, h.apart⟩
theorem OwnB.keep_ {w w' : World} {lo g n : Nat} {bs : List Bool} (h : OwnB w lo g n bs) (hs : ∀ (g : Nat) (cur : Array Value) (fz : Nat × Nat), w.heap[g]? = some (Obj.cells cur 4 fz) → w'.heap[g]? = w.heap[g]?) : OwnB w' lo g n bs := ⟨own_keep h.1 hs, h.2⟩
/-- A store into flags leaves rows and rows of rows as they are. -/
theorem OwnM.set_flag {w : World} {lo lo' c gb m k : Nat} {A : Option Addr} {R : Spine} {X : List (List Int)} {bs : List Bool} (h : OwnM w lo A c R X) (hb : OwnB w lo' gb m bs) (v : Value) : OwnM (w.setCell ⟨gb, k, none⟩ v) lo A c R X := by
  obtain ⟨cur, e⟩ := hb.typed
  exact h.keep_ (fun g cur' fz e' => typed_keep (grownBy_setCell w ⟨gb, k, none⟩ v) e e' (by decide)) (fun g cur' fz e' => typed_keep (grownBy_setCell w ⟨gb, k, none⟩ v) e e' (by decide))
theorem rs_flag_ne {w : World} {lo g gb m left P n c gu s kc : Nat} {sp : Bool} {A K : Option Addr} {cv : Value} {bs : List Bool} (h : w.heap[g]? = some (rsObj left sp P A n c gu K s kc cv)) (hb : OwnB w lo gb m bs) : g ≠ gb := fun e => by
  obtain ⟨cur, e2⟩ := hb.typed
  rw [← e, h] at e2
  injection e2 with e2
  injection e2 with _ e3 _
  exact absurd e3 (by decide)
theorem rs_set_flag {w : World} {lo g gb m k left P n c gu s kc : Nat} {sp : Bool} {A K : Option Addr} {cv : Value} {bs : List Bool} (h : w.heap[g]? = some (rsObj left sp P A n c gu K s kc cv)) (hb : OwnB w lo gb m bs) (v : Value) : (w.setCell ⟨gb, k, none⟩ v).heap[g]? = some (rsObj left sp P A n c gu K s kc cv) :=
  (Below.heap_setCell w ⟨gb, k, none⟩ v g (rs_flag_ne h hb)).trans h
theorem rs_row {w w' : World} {lo n1 c1 g left P n c gu s kc : Nat} {e : TypeId} {sp : Bool} {A A1 K : Option Addr} {cv : Value} {xs : List Value} (h : w.heap[g]? = some (rsObj left sp P A n c gu K s kc cv)) (ho : w.ownsRow lo e 1 (.slice A1 n1 c1) n1 xs) (he : e ≠ 50) (hg : w.grownBy w' (blk A1)) : w'.heap[g]? = some (rsObj left sp P A n c gu K s kc cv) :=
  (hg.block g (rs_lt h) (fun e1 => by
    obtain ⟨_, cur, e3⟩ := own_typed ho e1.symm
    rw [h] at e3
    injection e3 with e3
    injection e3 with _ e4 _
    exact he e4.symm)).trans h
theorem OwnB.row {w w' : World} {lo lo' n1 c1 g m : Nat} {e : TypeId} {A1 : Option Addr} {xs : List Value} {bs : List Bool} (h : OwnB w lo' g m bs) (ho : w.ownsRow lo e 1 (.slice A1 n1 c1) n1 xs) (he : e ≠ 4) (hg : w.grownBy w' (blk A1)) : OwnB w' lo' g m bs :=
  h.of_block (hg.block g h.lt.2 (fun e1 => by
    obtain ⟨_, cur, e3⟩ := own_typed ho e1.symm
    obtain ⟨cur', e4⟩ := h.typed
    rw [e3] at e4
    injection e4 with e4
    injection e4 with _ e5 _
    exact he e5))
theorem own_headR {w : World} {e : TypeId} {lo n c g m : Nat} {xs : List Value} (h : w.ownsRow lo e 1 (.slice (some ⟨g, 0, none⟩) n c) n xs) (hm : m ≤ n) : w.ownsRow lo e 1 (.slice (some ⟨g, 0, none⟩) m c) m (xs.take m) := by
  refine ⟨by rw [List.length_take, h.1]; omega, ?_⟩
  rcases h.2 with ⟨e1, _⟩ | ⟨g1, cap, cur, e1, hg, hh, hc, hmx, hs, ht⟩
  · cases e1
  · injection e1 with e1 e2 e3
    injection e1 with e1
    injection e1 with e1
    subst e1 e3
    refine .inr ⟨g, c, cur, rfl, hg, hh, by omega, hmx, hs, ?_⟩
    rw [← ht, List.take_take, Nat.mul_one, Nat.mul_one, Nat.min_eq_left hm]
theorem OwnI.front {w : World} {lo c : Nat} {A : Option Addr} {ys : List Int} {x : Int} (h : OwnI w lo A c (ys ++ [x])) : OwnI w lo A c ys := by
  obtain ⟨g, rfl, _⟩ := h.at_ (k := 0) (by simp)
  have := own_headR h (m := ys.length) (by simp)
  rw [← List.map_take, List.take_left' rfl] at this
  exact this
theorem set_last {Y : List (List Int)} {a b : List Int} : (Y ++ [a]).set Y.length b = Y ++ [b] := by simp
theorem row_last {Y : List (List Int)} {a : List Int} : row (Y ++ [a]) Y.length = a := by simp [row]
end Go.Proofs.Ythgbfgdnljgicab
