/-
  The reference's search for a resolution: its record in memory; l12Meet, the budget, the gap of a class. Conditions: those of each theorem.
-/
import Derived.Test.YthgbfgdnljgicabRslB
namespace Go.Proofs.Ythgbfgdnljgicab
open Go.RowKit
set_option linter.unusedVariables false
set_option linter.unusedSimpArgs false

def meetR (xs ys : List Int) : Bool := anyTo (fun k => hasB ys (nth xs k)) xs.length
set_option maxHeartbeats 1000000 in
theorem l12MeetR_c (w : World) (A B : Option Addr) (n m c d : Nat) (xs ys : List Int) (hr : RdI w A c xs) (hn : xs.length = n) (hs : RdI w B d ys) (hm : ys.length = m) :
    Calls Try.prog 32 #[.slice A n c, .slice B m d] w (EndQ (.bool (meetR xs ys)) w) := by
  have hmx : n ≤ 9223372036854775807 := by have h1 := hr.le; have h2 := hr.cap; unfold maxLen at h2; omega
  have HHas := Lib.hid (fun (x : Int) => has_c w B m d ys x hs hm)
  have HR := Lib.hid hr
  have HN := Lib.hid hn
  clear hr hn hs hm
  go_enter Try.func32, Try.ntmps32
  go_wp2
  go_loop [5] (fun i => ∃ k : Nat, k ≤ n ∧ i = .int .i64 k ∧ Hid (∀ j, j < k → hasB ys (nth xs j) = false)) (fun i => n - (intOf i).toNat)
  case atStart => exact ⟨0, Nat.zero_le _, rfl, Lib.hid fun j hj => absurd hj (by omega)⟩
  case round =>
    obtain ⟨k, hk, rfl, HF⟩ := hrel
    by_cases hlt : k < n
    · obtain ⟨b, off, e, hb, hc⟩ := HR.out.at_ k (by rw [HN.out]; exact hlt)
      subst e
      have hk0 : (0 : Int) ≤ (k : Int) := by omega
      have hk1 : (k : Int) < (n : Int) := by omega
      have hH := HHas.out (nth xs k)
      rcases hv : hasB ys (nth xs k) with _ | _
      · rw [hv] at hH
        have HH := Lib.hid hH
        have HV := Lib.hid hv
        clear hH hv
        go_wp2_with fail
        refine (HH.out).mono ?_
        rintro e w' ⟨rfl, rfl⟩
        go_wp2
        go_round
        case rel =>
          refine ⟨k + 1, by omega, by go_num, Lib.hid fun j hj => ?_⟩
          by_cases e : j = k
          · subst e; exact HV.out
          · exact HF.out j (by omega)
        case measure => simp [intOf]; omega
      · rw [hv] at hH
        have HH := Lib.hid hH
        have HV := Lib.hid (show meetR xs ys = true from anyTo_true.2 ⟨k, by rw [HN.out]; exact hlt, hv⟩)
        rw [HV.out]
        clear hH hv
        go_wp2_with fail
        refine (HH.out).mono ?_
        rintro e w' ⟨rfl, rfl⟩
        go_wp2
        go_ret
        exact ⟨rfl, 0, rfl⟩
    · obtain rfl : k = n := by omega
      have HV := Lib.hid (show meetR xs ys = false from anyTo_false.2 fun j hj => HF.out j (by rw [HN.out] at hj; exact hj))
      go_wp2
      go_ret
      exact ⟨by first | rfl | (rw [HV.out]; rfl), 0, rfl⟩

theorem l09Budget_c (b : Int) (w : World) : Calls Try.prog 15 #[.int .i64 b] w fun e w' => e = .returned (.bool (bdB b)) ∧ w = w' := by
  have HC := Lib.hid (in_c b 1 20000 w)
  rw [show bdB b = inB b 1 20000 from rfl]
  go_enter Try.func15, Try.ntmps15
  go_wp2_with fail
  refine (HC.out).mono ?_
  rintro e w2 ⟨rfl, rfl⟩
  go_wp2
  go_ret
  exact ⟨rfl, rfl⟩

/-- The record of the search as it lies in memory. -/
def fdArr (P : Nat) (A : Option Addr) (n c gu : Nat) (K : Option Addr) (s kc nodes bud : Nat) (fl : Bool) : Array Value :=
  #[.int .i64 (P : Int), .slice A n c, .slice (some ⟨gu, 0, none⟩) n n, .slice K s kc, .int .i64 (nodes : Int), .int .i64 (bud : Int), .bool fl]
def fdObj (P : Nat) (A : Option Addr) (n c gu : Nat) (K : Option Addr) (s kc nodes bud : Nat) (fl : Bool) : Obj := .cells (fdArr P A n c gu K s kc nodes bud fl) 41
section
variable {w w' w0 wo wr : World} {g P n c gu s kc nodes bud : Nat} {fl : Bool} {A K : Option Addr} {Rk : Spine} {X : List (List Int)} {U : List Bool} {lo : Nat}
theorem fd_cells (h : w.heap[g]? = some (fdObj P A n c gu K s kc nodes bud fl)) :
    w.cell? ⟨g, 0, none⟩ = some (.int .i64 (P : Int)) ∧ w.cell? ⟨g, 1, none⟩ = some (.slice A n c) ∧ w.cell? ⟨g, 2, none⟩ = some (.slice (some ⟨gu, 0, none⟩) n n) ∧ w.cell? ⟨g, 3, none⟩ = some (.slice K s kc) ∧
    w.cell? ⟨g, 4, none⟩ = some (.int .i64 (nodes : Int)) ∧ w.cell? ⟨g, 5, none⟩ = some (.int .i64 (bud : Int)) ∧ w.cell? ⟨g, 6, none⟩ = some (.bool fl) :=
  ⟨obj_cell h 0, obj_cell h 1, obj_cell h 2, obj_cell h 3, obj_cell h 4, obj_cell h 5, obj_cell h 6⟩
theorem fd_lt (h : w.heap[g]? = some (fdObj P A n c gu K s kc nodes bud fl)) : g < w.heap.size := (Array.getElem?_eq_some_iff.1 h).1
theorem fd_set3 (h : w.heap[g]? = some (fdObj P A n c gu K s kc nodes bud fl)) (K' : Option Addr) (s' kc' : Nat) : (w.setCell ⟨g, 3, none⟩ (.slice K' s' kc')).heap[g]? = some (fdObj P A n c gu K' s' kc' nodes bud fl) := obj_set h 3 _
theorem fd_set4 (h : w.heap[g]? = some (fdObj P A n c gu K s kc nodes bud fl)) (m : Nat) : (w.setCell ⟨g, 4, none⟩ (.int .i64 (m : Int))).heap[g]? = some (fdObj P A n c gu K s kc m bud fl) := obj_set h 4 _
theorem fd_set6 (h : w.heap[g]? = some (fdObj P A n c gu K s kc nodes bud fl)) (b : Bool) : (w.setCell ⟨g, 6, none⟩ (.bool b)).heap[g]? = some (fdObj P A n c gu K s kc nodes bud b) := obj_set h 6 _
theorem obj_flag_ne {a : Array Value} {T : TypeId} {gb m : Nat} {bs : List Bool} (h : w.heap[g]? = some (.cells a T)) (hT : T ≠ 4) (hb : OwnB w lo gb m bs) : gb ≠ g := fun e => by
  obtain ⟨cur, e2⟩ := hb.typed
  rw [e, h] at e2
  injection e2 with e2
  injection e2 with _ e3 _
  exact hT e3
theorem obj_row {a : Array Value} {T e : TypeId} {A1 : Option Addr} {n1 c1 : Nat} {xs : List Value} (h : w.heap[g]? = some (.cells a T)) (ho : w.ownsRow lo e 1 (.slice A1 n1 c1) n1 xs) (he : e ≠ T) (hg : w.grownBy w' (blk A1)) : w'.heap[g]? = some (.cells a T) :=
  (hg.block g (Array.getElem?_eq_some_iff.1 h).1 (fun e1 => by
    obtain ⟨_, cur, e3⟩ := own_typed ho e1.symm
    rw [h] at e3
    injection e3 with e3
    injection e3 with _ e4 _
    exact he e4.symm)).trans h
theorem obj_set_ks {a : Array Value} {T : TypeId} (h : w.heap[g]? = some (.cells a T)) (h1 : T ≠ 43) (h2 : T ≠ 2) (hk : OwnM w lo K kc Rk X) (k : Nat) (v : Value) : OwnM (w.setCell ⟨g, k, none⟩ v) lo K kc Rk X :=
  hk.keep_ (fun _ _ _ e' => typed_keep (grownBy_setCell w ⟨g, k, none⟩ v) h e' (fun e => h1 e.symm)) (fun _ _ _ e' => typed_keep (grownBy_setCell w ⟨g, k, none⟩ v) h e' (fun e => h2 e.symm))
/-- What a step leaves as it was: all that lay there before the search, and each row of numbers. -/
structure FrS (lo : Nat) (w w' : World) : Prop where
  below : Below lo w w'
  rows : ∀ (b : Nat) (cur : Array Value) (fz : Nat × Nat), w.heap[b]? = some (Obj.cells cur 2 fz) → w'.heap[b]? = w.heap[b]?
theorem FrS.refl (lo : Nat) (w : World) : FrS lo w w := ⟨Below.refl _ _, fun _ _ _ _ => rfl⟩
theorem FrS.trans {w2 : World} (h : FrS lo w w') (k : FrS lo w' w2) : FrS lo w w2 :=
  ⟨h.below.trans k.below, fun b cur fz e => by
    have e1 := h.rows b cur fz e
    rw [k.rows b cur fz (by rw [e1]; exact e), e1]⟩
theorem FrS.of_below (hb : Below w.heap.size w w') (hl : lo ≤ w.heap.size) : FrS lo w w' :=
  ⟨hb.mono hl, fun b _ _ e => hb.block b ((Array.getElem?_eq_some_iff.1 e).1)⟩
theorem FrS.drewN (h : FrS lo w w') (m : Nat) : FrS lo w (w'.drewN m) := ⟨below_drewN h.below m, h.rows⟩
theorem FrS.block {b : Nat} {cur : Array Value} {T : TypeId} {fz : Nat × Nat} (hg : w.grownBy w' (some b)) (h : w.heap[b]? = some (.cells cur T fz)) (hT : T ≠ 2) (hb : lo ≤ b) : FrS lo w w' :=
  ⟨Below.of_grown hg (by have := (Array.getElem?_eq_some_iff.1 h).1; omega) (fun g e => by injection e with e; omega), fun _ _ _ e => typed_keep hg h e (fun e2 => hT e2.symm)⟩
theorem FrS.row {e : TypeId} {n c : Nat} {A : Option Addr} {xs : List Value} (h : w.ownsRow lo e 1 (.slice A n c) n xs) (he : e ≠ 2) (hlo : lo ≤ w.heap.size) (hg : w.grownBy w' (blk A)) : FrS lo w w' := by
  rcases hA : blk A with _ | b
  · rw [hA] at hg
    exact ⟨Below.of_grown hg hlo (fun g e => by cases e), fun b cur fz e => hg.block b (Array.getElem?_eq_some_iff.1 e).1 (by simp)⟩
  · obtain ⟨h1, cur, e1⟩ := own_typed h hA
    rw [hA] at hg
    exact FrS.block hg e1 he h1
theorem OwnI.frS {A5 : Option Addr} {c5 : Nat} {xs : List Int} (h : OwnI w lo A5 c5 xs) {lo' : Nat} (hf : FrS lo' w w') : OwnI w' lo A5 c5 xs := own_keep h hf.rows

/-- What lies there during the search. -/
structure FdW (w0 wo wr : World) (g P : Nat) (A : Option Addr) (n c gu : Nat) (K : Option Addr) (s kc nodes bud : Nat) (fl : Bool) (Rk : Spine) (X : List (List Int)) (U : List Bool) : Prop where
  ob : wr.heap[g]? = some (fdObj P A n c gu K s kc nodes bud fl)
  us : OwnB wr w0.heap.size gu n U
  ks : OwnM wr w0.heap.size K kc Rk X
  bl : Below w0.heap.size w0 wr
  fr : FrS w0.heap.size wo wr
theorem FdW.base (h : FdW w0 wo wr g P A n c gu K s kc nodes bud fl Rk X U) : FdW w0 wr wr g P A n c gu K s kc nodes bud fl Rk X U := ⟨h.ob, h.us, h.ks, h.bl, FrS.refl _ _⟩
theorem FdW.rebase {w1 : World} (h : FdW w0 wo wr g P A n c gu K s kc nodes bud fl Rk X U) (hf : FrS w0.heap.size w1 wo) : FdW w0 w1 wr g P A n c gu K s kc nodes bud fl Rk X U := ⟨h.ob, h.us, h.ks, h.bl, hf.trans h.fr⟩
theorem FdW.drewN (h : FdW w0 wo wr g P A n c gu K s kc nodes bud fl Rk X U) (m : Nat) : FdW w0 wo (wr.drewN m) g P A n c gu K s kc nodes bud fl Rk X U := ⟨h.ob, h.us, h.ks.drewN m, below_drewN h.bl m, h.fr.drewN m⟩
theorem FdW.step (h : FdW w0 wo wr g P A n c gu K s kc nodes bud fl Rk X U) (hb : Below wr.heap.size wr w') : FdW w0 wo w' g P A n c gu K s kc nodes bud fl Rk X U :=
  ⟨(hb.block g (fd_lt h.ob)).trans h.ob, h.us.below hb, h.ks.below hb, h.bl.trans (hb.mono h.bl.size), h.fr.trans (FrS.of_below hb h.bl.size)⟩
theorem FdW.alloc (h : FdW w0 wo wr g P A n c gu K s kc nodes bud fl Rk X U) (o : Obj) : FdW w0 wo (wr.alloc o) g P A n c gu K s kc nodes bud fl Rk X U := h.step (below_boxed wr o)
theorem FdW.set {K' : Option Addr} {s' kc' nodes' : Nat} {fl' : Bool} {k : Nat} {v : Value} {R' : Spine} {X' : List (List Int)} (h : FdW w0 wo wr g P A n c gu K s kc nodes bud fl Rk X U) (hg : w0.heap.size ≤ g)
    (ho : (wr.setCell ⟨g, k, none⟩ v).heap[g]? = some (fdObj P A n c gu K' s' kc' nodes' bud fl')) (hk : OwnM wr w0.heap.size K' kc' R' X') : FdW w0 wo (wr.setCell ⟨g, k, none⟩ v) g P A n c gu K' s' kc' nodes' bud fl' R' X' U :=
  ⟨ho, h.us.setCell_other (p := ⟨g, k, none⟩) (obj_flag_ne h.ob (by decide) h.us) _, obj_set_ks h.ob (by decide) (by decide) hk k v, h.bl.setCell (p := ⟨g, k, none⟩) hg _, h.fr.trans (FrS.block (grownBy_setCell wr ⟨g, k, none⟩ v) h.ob (by decide) hg)⟩
theorem FdW.node (h : FdW w0 wo wr g P A n c gu K s kc nodes bud fl Rk X U) (hg : w0.heap.size ≤ g) (m : Nat) : FdW w0 wo (wr.setCell ⟨g, 4, none⟩ (.int .i64 (m : Int))) g P A n c gu K s kc m bud fl Rk X U := h.set hg (fd_set4 h.ob m) h.ks
theorem FdW.flag (h : FdW w0 wo wr g P A n c gu K s kc nodes bud fl Rk X U) (hg : w0.heap.size ≤ g) (b : Bool) : FdW w0 wo (wr.setCell ⟨g, 6, none⟩ (.bool b)) g P A n c gu K s kc nodes bud b Rk X U := h.set hg (fd_set6 h.ob b) h.ks
theorem FdW.used (h : FdW w0 wo wr g P A n c gu K s kc nodes bud fl Rk X U) (k : Nat) (b : Bool) : FdW w0 wo (wr.setCell ⟨gu, k, none⟩ (.bool b)) g P A n c gu K s kc nodes bud fl Rk X (U.set k b) := by
  obtain ⟨cur, e⟩ := h.us.typed
  exact ⟨(Below.heap_setCell wr ⟨gu, k, none⟩ (.bool b) g (fun e => obj_flag_ne h.ob (by decide) h.us e.symm)).trans h.ob, h.us.stored k b, h.ks.set_flag h.us _, h.bl.setCell (p := ⟨gu, k, none⟩) h.us.lt.1 _, h.fr.trans (FrS.block (grownBy_setCell wr ⟨gu, k, none⟩ (.bool b)) e (by decide) h.us.lt.1)⟩
end

theorem ptC_mem {xss : List (List Int)} {cs : List Int} {z : Int} : z ∈ ptC xss cs ↔ ∃ i ∈ cs, z ∈ row xss i.toNat := by simp [ptC]
theorem ptC_sort (P : Nat) (xss : List (List Int)) (cls : List Int) : gapI P (ptC xss (sortL cls)) = gapI P (ptC xss cls) := by
  unfold gapI
  rw [covV_perm (L := ptC xss (sortL cls)) (R := ptC xss cls) (fun z => by simp only [ptC_mem, sortL_mem])]
theorem gapI_hit {n : Nat} {L : List Int} {k : Nat} (hk : k < n) (h : hasB L (k : Int) = false) (hl : ∀ j : Nat, j < k → hasB L (j : Int) = true) : gapI n L = (k : Int) :=
  firstIdx_hit hk (by unfold idxF; rw [covV_flag hk, h]; rfl) (fun j hj => by unfold idxF; rw [covV_flag (by omega), hl j hj]; rfl)
theorem gapI_miss {n : Nat} {L : List Int} (hl : ∀ j : Nat, j < n → hasB L (j : Int) = true) : gapI n L = -1 :=
  firstIdx_miss (fun j hj => by unfold idxF; rw [covV_flag hj, hl j hj]; rfl)
/-- Whether one of the first i blocks of a class holds a point. -/
def inTo (xss : List (List Int)) (cs : List Int) (p : Int) (i : Nat) : Bool := (cs.take i).any fun k => hasB (row xss k.toNat) p
theorem inTo_succ {xss : List (List Int)} {cs : List Int} {p : Int} {i : Nat} (h : i < cs.length) : inTo xss cs p (i + 1) = (inTo xss cs p i || hasB (row xss (nth cs i).toNat) p) := by
  unfold inTo
  rw [take_nth h, List.any_append]
  simp
theorem inTo_all {xss : List (List Int)} {cs : List Int} {p : Int} {m : Nat} (h : cs.length = m) : inTo xss cs p m = hasB (ptC xss cs) p := by
  unfold inTo
  rw [List.take_of_length_le (by omega), Bool.eq_iff_iff, List.any_eq_true, hasB_true, ptC_mem]
  simp only [hasB_true]

set_option maxRecDepth 100000 in
set_option maxHeartbeats 8000000 in
theorem gap_c (w : World) {g P n c gu s kc nodes bud : Nat} {fl : Bool} {A K : Option Addr} (h : w.heap[g]? = some (fdObj P A n c gu K s kc nodes bud fl)) (R : Spine) (xss : List (List Int)) (hr : RdM w A c R xss) (hn : xss.length = n)
    (A5 : Option Addr) (m c5 : Nat) (cs : List Int) (hc : RdI w A5 c5 cs) (hm : cs.length = m) (hlt : ∀ k ∈ cs, 0 ≤ k ∧ k < (n : Int)) (hP : P ≤ 32) (hn128 : n ≤ 128) (hm2 : m ≤ 1000) :
    Calls Try.prog 29 #[.pointer (some ⟨g, 0, none⟩), .slice A5 m c5] w (EndQ (.int .i64 (gapI P (ptC xss cs))) w) := by
  obtain ⟨q0, q1, _, _, _, _, _⟩ := fd_cells h
  obtain ⟨L, hL⟩ : ∃ L, L = ptC xss cs := ⟨_, rfl⟩
  rw [← hL]
  have HIn := Lib.hid (fun (p : Int) => (show inTo xss cs p m = hasB L p from by rw [hL]; exact inTo_all hm))
  have HR := Lib.hid hr
  have HC := Lib.hid hc
  have HN := Lib.hid hn
  have HM := Lib.hid hm
  have HLt := Lib.hid hlt
  clear h hr hc hn hm hlt hL
  go_enter Try.func29, Try.ntmps29
  go_wp2
  go_loopw [5, 6, 7] (fun v _ _ wr => ∃ k : Nat, k ≤ P ∧ v = .int .i64 k ∧ Hid (∀ j : Nat, j < k → hasB L (j : Int) = true) ∧ Qt w wr) (fun v _ _ _ => P - (intOf v).toNat)
  case atStart => exact ⟨0, Nat.zero_le _, rfl, Lib.hid (fun j hj => absurd hj (by omega)), Qt.refl _⟩
  case round =>
    obtain ⟨k, hk, rfl, HAl, ⟨q, rfl⟩⟩ := hrel
    have q0' : (w.drewN q).cell? ⟨g, 0, none⟩ = some (.int .i64 (P : Int)) := q0
    by_cases hkP : k < P
    · obtain ⟨wo, hwo⟩ : ∃ wo, wo = w.drewN q := ⟨_, rfl⟩
      have HWo := Lib.hid hwo
      rw [← hwo] at q0' ⊢
      clear hwo
      go_wp2
      go_loopw [6, 7] (fun a v wr => ∃ i : Nat, i ≤ m ∧ v = .int .i64 i ∧ a = .bool (inTo xss cs (k : Int) i) ∧ Qt wo wr) (fun _ v _ => m - (intOf v).toNat)
      case atStart => exact ⟨0, Nat.zero_le _, rfl, rfl, Qt.refl _⟩
      case round =>
        obtain ⟨i, hi, rfl, rfl, ⟨q2, rfl⟩⟩ := hrel
        by_cases him : i < m
        · have hix : i < cs.length := by rw [HM.out]; exact him
          have hel := HLt.out (nth cs i) (by rw [nth_eq hix]; exact List.getElem_mem hix)
          obtain ⟨x, hx⟩ : ∃ x : Nat, nth cs i = (x : Int) := ⟨(nth cs i).toNat, by omega⟩
          obtain ⟨b5, off5, e5, hb5, hc5⟩ := HC.out.at_ i hix
          have hxn : x < n := by omega
          obtain ⟨b, off, e, hb, hcx⟩ := HR.out.at_ x (by rw [HN.out]; exact hxn)
          have HSu := Lib.hid (inTo_succ (xss := xss) (p := (k : Int)) hix)
          rw [hx] at hc5
          rw [hx, show ((x : Int)).toNat = x from rfl] at HSu
          have HHas := Lib.hid (fun z => has_c (wo.drewN z) (R x).1 (row xss x).length (R x).2 (row xss x) (k : Int) (by rw [HWo.out, World.drewN_drewN]; exact ((HR.out.rows x (by rw [HN.out]; exact hxn))).drewN _) rfl)
          have hc5' : wo.cell? ⟨b5, off5 + i, none⟩ = some (.int .i64 (x : Int)) := by rw [HWo.out]; exact hc5
          have hcx' : wo.cell? ⟨b, off + x, none⟩ = some (.slice (R x).1 (row xss x).length (R x).2) := by rw [HWo.out]; exact hcx
          have q1' : wo.cell? ⟨g, 1, none⟩ = some (.slice A n c) := by rw [HWo.out]; exact q1
          have hi0 : (0 : Int) ≤ (i : Int) := by omega
          have hi1 : (i : Int) < (m : Int) := by omega
          have hx0 : (0 : Int) ≤ (x : Int) := by omega
          have hx1 : (x : Int) < (n : Int) := by omega
          rw [e] at q1'
          rw [e5]
          clear hel hx hc5 hcx hb5 hb e e5
          rcases hh : hasB (row xss x) (k : Int) with _ | _
          · rw [hh] at HHas HSu
            have HS2 := Lib.hid (show inTo xss cs (k : Int) i = inTo xss cs (k : Int) (i + 1) from by rw [HSu.out, Bool.or_false])
            clear hh
            go_wp2
            go_quiet ((go_at_call 31; exact quiet_drN (HHas.out _)))
            clear hc5' hcx' q1'
            go_wp2
            go_roundw
            case rel => exact ⟨i + 1, by omega, by go_num, by rw [HS2.out], ⟨q2 + nq, by first | rfl | rw [World.drewN_drewN]⟩⟩
            case measure => simp [intOf]; omega
          · rw [hh] at HHas HSu
            have HS2 := Lib.hid (show inTo xss cs (k : Int) (i + 1) = true from by rw [HSu.out, Bool.or_true])
            clear hh
            go_wp2
            go_quiet ((go_at_call 31; exact quiet_drN (HHas.out _)))
            clear hc5' hcx' q1'
            go_wp2
            go_roundw
            case rel => exact ⟨i + 1, by omega, by go_num, by rw [HS2.out], ⟨q2 + nq, by first | rfl | rw [World.drewN_drewN]⟩⟩
            case measure => simp [intOf]; omega
        · obtain rfl : i = m := by omega
          have HIk := Lib.hid (HIn.out (k : Int))
          rcases hh : hasB L (k : Int) with _ | _
          · have HI2 := Lib.hid (show inTo xss cs (k : Int) i = false from by rw [HIk.out]; exact hh)
            have HG := Lib.hid (gapI_hit hkP hh HAl.out)
            clear hh
            rw [HI2.out]
            go_wp2
            go_ret
            exact ⟨by rw [HG.out]; rfl, q + q2, by rw [HWo.out, World.drewN_drewN]⟩
          · have HI2 := Lib.hid (show inTo xss cs (k : Int) i = true from by rw [HIk.out]; exact hh)
            have HA2 := Lib.hid (show ∀ j : Nat, j < k + 1 → hasB L (j : Int) = true from fun j hj => by
              by_cases e : j = k
              · subst e; exact hh
              · exact HAl.out j (by omega))
            clear hh
            rw [HI2.out]
            go_wp2
            go_roundw
            case rel => exact ⟨k + 1, by omega, by go_num, HA2, ⟨q + q2, by rw [HWo.out, World.drewN_drewN]⟩⟩
            case measure => simp [intOf]; omega
    · obtain rfl : k = P := by omega
      have HG := Lib.hid (gapI_miss HAl.out)
      go_wp2
      go_ret
      exact ⟨by rw [HG.out]; rfl, q, rfl⟩
end Go.Proofs.Ythgbfgdnljgicab
