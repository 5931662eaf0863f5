/-
  The program's search for a resolution: its record in memory; node, fits. Conditions: those of each theorem.
-/
import Derived.Test.YthgbfgdnljgicabRslP
import Derived.Test.YthgbfgdnljgicabPutR
namespace Go.Proofs.Ythgbfgdnljgicab
open Go.RowKit
set_option linter.unusedVariables false
set_option linter.unusedSimpArgs false

/-- The record of the search as it lies in memory. -/
def rsArr (left : Nat) (sp : Bool) (P : Nat) (A : Option Addr) (n c gu : Nat) (K : Option Addr) (s kc : Nat) (cv : Value) : Array Value :=
  #[.int .i64 (left : Int), .bool sp, .int .i64 (P : Int), .slice A n c, .slice (some ⟨gu, 0, none⟩) n n, .slice K s kc, cv]
def rsObj (left : Nat) (sp : Bool) (P : Nat) (A : Option Addr) (n c gu : Nat) (K : Option Addr) (s kc : Nat) (cv : Value) : Obj :=
  .cells (rsArr left sp P A n c gu K s kc cv) 50
theorem obj_cell {w : World} {g : Nat} {a : Array Value} {T : TypeId} (h : w.heap[g]? = some (.cells a T)) (k : Nat) : w.cell? ⟨g, k, none⟩ = a[k]? := by
  unfold World.cell?; rw [h]; rfl
theorem obj_frozen {w : World} {g : Nat} {a : Array Value} {T : TypeId} (h : w.heap[g]? = some (.cells a T)) (k : Nat) : w.frozen? ⟨g, k, none⟩ = false := by
  unfold World.frozen?; rw [h]; simp
theorem obj_set {w : World} {g : Nat} {a : Array Value} {T : TypeId} (h : w.heap[g]? = some (.cells a T)) (k : Nat) (v : Value) : (w.setCell ⟨g, k, none⟩ v).heap[g]? = some (.cells (a.setIfInBounds k v) T) := by
  unfold World.setCell
  simp only [Array.getElem?_modify, if_true, h]
  rfl
section
variable {w : World} {g left P n c gu s kc : Nat} {sp : Bool} {A K : Option Addr} {cv : Value}
theorem rs_cells (h : w.heap[g]? = some (rsObj left sp P A n c gu K s kc cv)) :
    w.cell? ⟨g, 0, none⟩ = some (.int .i64 (left : Int)) ∧ w.cell? ⟨g, 1, none⟩ = some (.bool sp) ∧ w.cell? ⟨g, 2, none⟩ = some (.int .i64 (P : Int)) ∧ w.cell? ⟨g, 3, none⟩ = some (.slice A n c) ∧
    w.cell? ⟨g, 4, none⟩ = some (.slice (some ⟨gu, 0, none⟩) n n) ∧ w.cell? ⟨g, 5, none⟩ = some (.slice K s kc) ∧ w.cell? ⟨g, 6, none⟩ = some cv :=
  ⟨obj_cell h 0, obj_cell h 1, obj_cell h 2, obj_cell h 3, obj_cell h 4, obj_cell h 5, obj_cell h 6⟩
theorem rs_lt (h : w.heap[g]? = some (rsObj left sp P A n c gu K s kc cv)) : g < w.heap.size := (Array.getElem?_eq_some_iff.1 h).1
theorem rs_set0 (h : w.heap[g]? = some (rsObj left sp P A n c gu K s kc cv)) (l : Nat) : (w.setCell ⟨g, 0, none⟩ (.int .i64 (l : Int))).heap[g]? = some (rsObj l sp P A n c gu K s kc cv) := obj_set h 0 _
theorem rs_set1 (h : w.heap[g]? = some (rsObj left sp P A n c gu K s kc cv)) (b : Bool) : (w.setCell ⟨g, 1, none⟩ (.bool b)).heap[g]? = some (rsObj left b P A n c gu K s kc cv) := obj_set h 1 _
theorem rs_set5 (h : w.heap[g]? = some (rsObj left sp P A n c gu K s kc cv)) (K' : Option Addr) (s' kc' : Nat) : (w.setCell ⟨g, 5, none⟩ (.slice K' s' kc')).heap[g]? = some (rsObj left sp P A n c gu K' s' kc' cv) := obj_set h 5 _
theorem rs_set6 (h : w.heap[g]? = some (rsObj left sp P A n c gu K s kc cv)) (cv' : Value) : (w.setCell ⟨g, 6, none⟩ cv').heap[g]? = some (rsObj left sp P A n c gu K s kc cv') := obj_set h 6 _
end

/-- What a step of the search leaves as it was: all that lay there before the search, and flags but those of two blocks. -/
structure Fr (lo gu : Nat) (cb : Option Nat) (w w' : World) : Prop where
  below : Below lo w w'
  flags : ∀ b cur fz, w.heap[b]? = some (.cells cur 4 fz) → b ≠ gu → cb ≠ some b → w'.heap[b]? = w.heap[b]?
section
variable {lo gu : Nat} {cb : Option Nat} {w w' w2 : World}
theorem Fr.refl (lo gu : Nat) (cb : Option Nat) (w : World) : Fr lo gu cb w w := ⟨Below.refl _ _, fun _ _ _ _ _ _ => rfl⟩
theorem Fr.trans (h : Fr lo gu cb w w') (k : Fr lo gu cb w' w2) : Fr lo gu cb w w2 :=
  ⟨h.below.trans k.below, fun b cur fz e h1 h2 => by
    have e1 := h.flags b cur fz e h1 h2
    rw [k.flags b cur fz (by rw [e1]; exact e) h1 h2, e1]⟩
theorem Fr.weak (h : Fr lo gu none w w') (cb : Option Nat) : Fr lo gu cb w w' := ⟨h.below, fun b cur fz e h1 _ => h.flags b cur fz e h1 (by simp)⟩
theorem Fr.of_below (hb : Below w.heap.size w w') (hl : lo ≤ w.heap.size) : Fr lo gu cb w w' :=
  ⟨hb.mono hl, fun b _ _ e _ _ => hb.block b ((Array.getElem?_eq_some_iff.1 e).1)⟩
theorem Fr.grown {r : Option Nat} (h : w.grownBy w' r) (hlo : lo ≤ w.heap.size) (hl : ∀ g, r = some g → lo ≤ g)
    (ht : ∀ g, r = some g → g = gu ∨ cb = some g ∨ ∀ cur fz, w.heap[g]? ≠ some (.cells cur 4 fz)) : Fr lo gu cb w w' :=
  ⟨Below.of_grown h hlo hl, fun b cur fz e h1 h2 => h.block b ((Array.getElem?_eq_some_iff.1 e).1) (fun e2 => by
    rcases ht b e2.symm with h3 | h3 | h3
    · exact h1 h3
    · exact h2 h3
    · exact h3 cur fz e)⟩
theorem Fr.drewN (h : Fr lo gu cb w w') (m : Nat) : Fr lo gu cb w (w'.drewN m) := ⟨below_drewN h.below m, h.flags⟩
theorem Fr.set {g : Nat} {a : Array Value} {T : TypeId} {fz : Nat × Nat} (h : w.heap[g]? = some (.cells a T fz)) (hT : T ≠ 4) (hg : lo ≤ g) (k : Nat) (v : Value) : Fr lo gu cb w (w.setCell ⟨g, k, none⟩ v) :=
  Fr.grown (grownBy_setCell w ⟨g, k, none⟩ v) (Nat.le_trans hg (Nat.le_of_lt (Array.getElem?_eq_some_iff.1 h).1)) (fun g' e => by injection e with e; subst e; exact hg)
    (fun g' e => .inr (.inr fun cur fz' e2 => by injection e with e; subst e; simp only at e2; rw [h] at e2; injection e2 with e2; injection e2 with _ e3 _; exact hT e3))
theorem Fr.set_us {k : Nat} {v : Value} {n : Nat} {bs : List Bool} (h : OwnB w lo gu n bs) : Fr lo gu cb w (w.setCell ⟨gu, k, none⟩ v) :=
  Fr.grown (grownBy_setCell w ⟨gu, k, none⟩ v) (by have := h.lt; omega) (fun g' e => by injection e with e; subst e; exact h.lt.1) (fun g' e => by injection e with e; exact .inl e.symm)
theorem Fr.set_cv {k gc : Nat} {v : Value} {n : Nat} {bs : List Bool} (h : OwnB w lo gc n bs) : Fr lo gu (some gc) w (w.setCell ⟨gc, k, none⟩ v) :=
  Fr.grown (grownBy_setCell w ⟨gc, k, none⟩ v) (by have := h.lt; omega) (fun g' e => by injection e with e; subst e; exact h.lt.1) (fun g' e => by injection e with e; exact .inr (.inl (by rw [← e])))
theorem own_typed {e : TypeId} {n c : Nat} {A : Option Addr} {xs : List Value} (h : w.ownsRow lo e 1 (.slice A n c) n xs) {g : Nat} (hb : blk A = some g) : lo ≤ g ∧ ∃ cur, w.heap[g]? = some (.cells cur e) := by
  rcases h.2 with ⟨e1, _⟩ | ⟨g', cap, cur, e1, hg, hh, _⟩
  · injection e1 with e1; subst e1; simp [blk] at hb
  · injection e1 with e1
    subst e1
    rw [blk_some] at hb
    injection hb with hb
    subst hb
    exact ⟨hg, cur, hh⟩
theorem Fr.row {e : TypeId} {n c : Nat} {A : Option Addr} {xs : List Value} (h : w.ownsRow lo e 1 (.slice A n c) n xs) (he : e ≠ 4) (hlo : lo ≤ w.heap.size) (hg : w.grownBy w' (blk A)) : Fr lo gu cb w w' :=
  Fr.grown hg hlo (fun g e1 => (own_typed h e1).1) (fun g e1 => .inr (.inr fun cur fz e2 => by
    obtain ⟨_, cur', e3⟩ := own_typed h e1
    rw [e3] at e2
    injection e2 with e2
    injection e2 with _ e4 _
    exact he e4))
theorem OwnB.typed {g n : Nat} {bs : List Bool} (h : OwnB w lo g n bs) : ∃ cur, w.heap[g]? = some (.cells cur 4) := (own_typed h.1 (g := g) (blk_some _ _)).2
theorem OwnB.fr {g n : Nat} {bs : List Bool} (h : OwnB w lo g n bs) (hf : Fr lo gu cb w w') (h1 : g ≠ gu) (h2 : cb ≠ some g) : OwnB w' lo g n bs := by
  obtain ⟨cur, e⟩ := h.typed
  exact h.of_block (hf.flags g cur _ e h1 h2)
end

set_option maxHeartbeats 1000000 in
theorem node0_c (w : World) {g P n c gu s kc : Nat} {sp : Bool} {A K : Option Addr} {cv : Value} (h : w.heap[g]? = some (rsObj 0 sp P A n c gu K s kc cv)) :
    Calls Try.prog 40 #[.pointer (some ⟨g, 0, none⟩)] w fun e w' => e = .returned (.bool false) ∧ w' = w.setCell ⟨g, 1, none⟩ (.bool true) := by
  obtain ⟨h0, h1, _⟩ := rs_cells h
  have f1 := obj_frozen h 1
  clear h
  go_enter Try.func40, Try.ntmps40
  go_wp2
  go_ret
  exact ⟨rfl, rfl⟩
set_option maxHeartbeats 1000000 in
theorem node1_c (w : World) {g l P n c gu s kc : Nat} {sp : Bool} {A K : Option Addr} {cv : Value} (hl : l ≤ 1048576) (h : w.heap[g]? = some (rsObj (l + 1) sp P A n c gu K s kc cv)) :
    Calls Try.prog 40 #[.pointer (some ⟨g, 0, none⟩)] w fun e w' => e = .returned (.bool true) ∧ w' = w.setCell ⟨g, 0, none⟩ (.int .i64 (l : Int)) := by
  obtain ⟨h0, h1, _⟩ := rs_cells h
  have f0 := obj_frozen h 0
  clear h
  obtain ⟨x, hx⟩ : ∃ x : Int, x = ((l + 1 : Nat) : Int) := ⟨_, rfl⟩
  rw [← hx] at h0
  have hx0 : ¬ x = 0 := by omega
  have hx1 : (x == 0) = false := by simp [hx0]
  have hx2 : x - 1 = (l : Int) := by omega
  have hx3 : 1 ≤ x ∧ x ≤ 1048577 := by omega
  have HX := Lib.hid hx2
  clear hx hx2
  go_enter Try.func40, Try.ntmps40
  go_wp2
  go_ret
  exact ⟨rfl, by rw [HX.out]⟩

set_option maxHeartbeats 1000000 in
theorem fits1_c (W : World) {lo Bx g left P n c gu gc s kc : Nat} {sp : Bool} {A K : Option Addr} {L : List Int} (h : W.heap[g]? = some (rsObj left sp P A n c gu K s kc (.slice (some ⟨gc, 0, none⟩) P P)))
    (hX : W.cell? ⟨Bx, 0, none⟩ = some (.pointer (some ⟨g, 0, none⟩))) (hc : OwnB W lo gc P (covV P L)) (x : Nat) (hx : x < P) :
    Calls Try.prog 68 #[.int .i64 (x : Int), .pointer (some ⟨Bx, 0, none⟩)] W (PostV W (.bool (hasB L (x : Int)))) := by
  obtain ⟨_, _, _, _, _, _, h6⟩ := rs_cells h
  have hcx := (hc.at_ hx).1
  rw [covV_flag hx] at hcx
  have hx0 : (0 : Int) ≤ (x : Int) := by omega
  have hx1 : (x : Int) < (P : Int) := by omega
  clear h hc
  generalize hasB L (x : Int) = b at *
  go_enter Try.func68, Try.ntmps68
  go_wp2
  go_ret
  exact ⟨rfl, Below.refl _ _⟩

theorem anyTo_any (xs : List Int) (p : Int → Bool) : anyTo (fun k => p (nth xs k)) xs.length = xs.any p := by
  rw [Bool.eq_iff_iff, anyTo_true, List.any_eq_true]
  constructor
  · rintro ⟨k, hk, h⟩; exact ⟨nth xs k, by rw [nth_eq hk]; exact List.getElem_mem hk, h⟩
  · rintro ⟨x, hx, h⟩
    obtain ⟨k, hk, rfl⟩ := List.getElem_of_mem hx
    exact ⟨k, hk, by rw [nth_eq hk]; exact h⟩
def fitB (xs U L : List Int) (p : Int) (k : Nat) : Bool := !(hasB U (k : Int)) && (hasB xs p && !(xs.any fun x => hasB L x))

set_option maxRecDepth 100000 in
set_option maxHeartbeats 4000000 in
theorem fits_c (w : World) {lo g left P n c gu gc s kc : Nat} {sp : Bool} {A K : Option Addr} {U L : List Int} (h : w.heap[g]? = some (rsObj left sp P A n c gu K s kc (.slice (some ⟨gc, 0, none⟩) P P)))
    (hu : OwnB w lo gu n (covV n U)) (hc : OwnB w lo gc P (covV P L)) (R : Spine) (xss : List (List Int)) (hr : RdM w A c R xss) (hn : xss.length = n) (hD : DsgOk (P : Int) xss) (k : Nat) (hk : k < n) (p : Int) :
    Calls Try.prog 51 #[.pointer (some ⟨g, 0, none⟩), .int .i64 (k : Int), .int .i64 p] w (PostV w (.bool (fitB (row xss k) U L p k))) := by
  have hmf : ∀ (fn : Fn) (first cap : Array Value) (w : World), (Instr.makeFunc fn first cap).run Try.prog w = .ok (.func fn first cap) w := fun _ _ _ _ => rfl
  have hkx : k < xss.length := by omega
  have hglt := rs_lt h
  obtain ⟨w1, hw1⟩ : ∃ w1, w1 = w.alloc (.cells #[.pointer (some ⟨g, 0, none⟩)] 46) := ⟨_, rfl⟩
  have hB1 : Below w.heap.size w w1 := by rw [hw1]; exact below_boxed w _
  have hX1 : w1.cell? ⟨w.heap.size, 0, none⟩ = some (.pointer (some ⟨g, 0, none⟩)) := by rw [hw1]; exact World.cell?_alloc_at _ _ _ _ rfl
  have hs1 : w.heap.size < w1.heap.size := by rw [hw1]; simp
  have h1 : w1.heap[g]? = some (rsObj left sp P A n c gu K s kc (.slice (some ⟨gc, 0, none⟩) P P)) := (hB1.block g hglt).trans h
  have hu1 := hu.below hB1
  have hc1 := hc.below hB1
  have hr1 := hr.below hB1
  obtain ⟨b, off, rfl, hb, hci⟩ := hr1.at_ k hkx
  obtain ⟨_, _, _, q3, q4, _, _⟩ := rs_cells h1
  have hcu := (hu1.at_ hk).1
  rw [covV_flag hk] at hcu
  have hk0 : (0 : Int) ≤ (k : Int) := by omega
  have hk1 : (k : Int) < (n : Int) := by omega
  have eg := enters_of Try.func68 (by kernel_rfl) rfl
  have HCo := Lib.hid (contains_c w1 (R k).1 (row xss k).length (R k).2 (row xss k) p (hr1.rows k hkx) rfl)
  have HAn := Lib.hid (containsFuncI w1 (R k).1 (row xss k).length (R k).2 (row xss k) 68 #[.pointer (some ⟨w.heap.size, 0, none⟩)] (fun j => hasB L (nth (row xss k) j)) eg (hr1.rows k hkx) rfl (fun W j hj hBW => by
    have hro := rowOk hD hkx hj
    obtain ⟨x, hx⟩ : ∃ x : Nat, nth (row xss k) j = (x : Int) := ⟨(nth (row xss k) j).toNat, by omega⟩
    rw [hx]
    exact fits1_c W ((hBW.block g (rs_lt h1)).trans h1) ((hBW.cell (p := ⟨w.heap.size, 0, none⟩) hs1).trans hX1) (hc1.below hBW) x (by omega)))
  have HEq := Lib.hid (anyTo_any (row xss k) (fun x => hasB L x))
  have HW1 := Lib.hid hw1
  have HB1 := Lib.hid hB1
  rw [hw1] at q3 q4 hcu hci
  clear h hu hc hr h1 hu1 hc1 hr1 hX1 hw1 hB1 hs1 hglt eg hn hD hkx hb
  unfold fitB
  rcases hq : hasB U (k : Int) with _ | _
  · rcases hp : hasB (row xss k) p with _ | _
    · rw [hq] at hcu
      rw [hp] at HCo
      clear hq hp
      go_enter Try.func51, Try.ntmps51
      go_wp2_with fail
      rw [← HW1.out]
      refine (HCo.out).mono ?_
      rintro e w2 ⟨rfl, rfl⟩
      go_wp2
      go_ret
      exact ⟨rfl, HB1.out⟩
    · rw [hq] at hcu
      rw [hp] at HCo
      clear hq hp
      go_enter Try.func51, Try.ntmps51
      go_wp2_with fail
      rw [← HW1.out]
      refine (HCo.out).mono ?_
      rintro e w2 ⟨rfl, rfl⟩
      go_wp2_with fail
      refine (HAn.out).mono ?_
      rintro e w3 ⟨rfl, hb3⟩
      have HB3 := Lib.hid (HB1.out.trans (hb3.mono HB1.out.size))
      clear hb3
      go_wp2
      go_ret
      exact ⟨by simp [← HEq.out], HB3.out⟩
  · rw [hq] at hcu
    clear hq
    go_enter Try.func51, Try.ntmps51
    go_wp2
    rw [← HW1.out]
    go_ret
    exact ⟨rfl, HB1.out⟩
end Go.Proofs.Ythgbfgdnljgicab
