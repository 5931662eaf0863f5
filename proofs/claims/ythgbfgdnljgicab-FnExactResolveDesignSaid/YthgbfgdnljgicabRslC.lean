/-
  The program's search for a resolution: take. Conditions: those of each theorem.
-/
import Derived.Test.YthgbfgdnljgicabRslB
import Derived.StillTailTactics
namespace Go.Proofs.Ythgbfgdnljgicab
open Go.RowKit
set_option linter.unusedVariables false
set_option linter.unusedSimpArgs false

/-- What lies there while a block's points are covered, or uncovered. -/
structure TkW (w0 wo wr : World) (g left : Nat) (sp : Bool) (P : Nat) (A : Option Addr) (n c gu gc : Nat) (K : Option Addr) (s kc : Nat) (Rk : Spine) (X : List (List Int)) (U : List Bool) (L : List Int) : Prop where
  ob : wr.heap[g]? = some (rsObj left sp P A n c gu K s kc (.slice (some ⟨gc, 0, none⟩) P P))
  us : OwnB wr w0.heap.size gu n U
  cv : OwnB wr w0.heap.size gc P (covV P L)
  ks : OwnM wr w0.heap.size K kc Rk X
  bl : Below w0.heap.size w0 wr
  fr : Fr w0.heap.size gu (some gc) wo wr
section
variable {w0 wo wr : World} {g left P n c gu gc s kc : Nat} {sp : Bool} {A K : Option Addr} {Rk : Spine} {X : List (List Int)} {U : List Bool} {L : List Int}
theorem TkW.used (h : TkW w0 wo wr g left sp P A n c gu gc K s kc Rk X U L) (hne : gc ≠ gu) (k : Nat) (b : Bool) : TkW w0 wo (wr.setCell ⟨gu, k, none⟩ (.bool b)) g left sp P A n c gu gc K s kc Rk X (U.set k b) L :=
  ⟨rs_set_flag h.ob h.us _, h.us.stored k b, h.cv.setCell_other (p := ⟨gu, k, none⟩) hne _, h.ks.set_flag h.us _, h.bl.setCell (p := ⟨gu, k, none⟩) h.us.lt.1 _, h.fr.trans (Fr.set_us h.us)⟩
theorem TkW.cover (h : TkW w0 wo wr g left sp P A n c gu gc K s kc Rk X U L) (hne : gc ≠ gu) {L' : List Int} (x : Nat) (b : Bool) (hL : (covV P L).set x b = covV P L') : TkW w0 wo (wr.setCell ⟨gc, x, none⟩ (.bool b)) g left sp P A n c gu gc K s kc Rk X U L' :=
  ⟨rs_set_flag h.ob h.cv _, h.us.setCell_other (p := ⟨gc, x, none⟩) (fun e => hne e.symm) _, by have := h.cv.stored x b; rwa [hL] at this, h.ks.set_flag h.cv _, h.bl.setCell (p := ⟨gc, x, none⟩) h.cv.lt.1 _, h.fr.trans (Fr.set_cv h.cv)⟩
theorem TkW.head_ne {G : Nat} (h : TkW w0 wo wr g left sp P A n c gu gc (some ⟨G, 0, none⟩) s kc Rk X U L) : g ≠ G ∧ gu ≠ G ∧ gc ≠ G := by
  obtain ⟨_, cur, e3⟩ := own_typed h.ks.own (blk_some G 0)
  refine ⟨fun e => ?_, fun e => ?_, fun e => ?_⟩
  · have := h.ob
    rw [e, e3] at this
    injection this with this
    injection this with _ e4 _
    exact absurd e4 (by decide)
  · obtain ⟨cur', e5⟩ := h.us.typed
    rw [e, e3] at e5
    injection e5 with e5
    injection e5 with _ e4 _
    exact absurd e4 (by decide)
  · obtain ⟨cur', e5⟩ := h.cv.typed
    rw [e, e3] at e5
    injection e5 with e5
    injection e5 with _ e4 _
    exact absurd e4 (by decide)
/-- A row is stored anew. -/
theorem TkW.store {G T : Nat} (h : TkW w0 wo wr g left sp P A n c gu gc (some ⟨G, 0, none⟩) s kc Rk X U L) {R' : Spine} {X' : List (List Int)} {v : Value} (hk : OwnM (wr.setCell ⟨G, T, none⟩ v) w0.heap.size (some ⟨G, 0, none⟩) kc R' X') :
    TkW w0 wo (wr.setCell ⟨G, T, none⟩ v) g left sp P A n c gu gc (some ⟨G, 0, none⟩) s kc R' X' U L := by
  obtain ⟨h1, h2, h3⟩ := h.head_ne
  obtain ⟨hG, cur, e3⟩ := own_typed h.ks.own (blk_some G 0)
  exact ⟨(Below.heap_setCell wr ⟨G, T, none⟩ v g h1).trans h.ob, h.us.setCell_other (p := ⟨G, T, none⟩) h2 _, h.cv.setCell_other (p := ⟨G, T, none⟩) h3 _, hk, h.bl.setCell (p := ⟨G, T, none⟩) hG _, h.fr.trans (Fr.set e3 (by decide) hG T v)⟩
theorem TkW.row_ {w7 : World} {T : Nat} {o : Obj} (h : TkW w0 wo wr g left sp P A n c gu gc K s kc Rk X U L) (hT : T < X.length) (hg7 : (wr.alloc o).drew.grownBy w7 (blk (Rk T).1)) :
    w7.heap[g]? = some (rsObj left sp P A n c gu K s kc (.slice (some ⟨gc, 0, none⟩) P P)) ∧ OwnB w7 w0.heap.size gu n U ∧ OwnB w7 w0.heap.size gc P (covV P L) ∧ Below w0.heap.size w0 w7 ∧ Fr w0.heap.size gu (some gc) wo w7 := by
  have hglt := rs_lt h.ob
  have hb1 := below_boxed wr o
  have hr1 : OwnI (wr.alloc o).drew w0.heap.size (Rk T).1 (Rk T).2 (row X T) := ((h.ks.rows T hT).alloc o).drewN 1
  have hz : w0.heap.size ≤ wr.heap.size := h.bl.size
  refine ⟨rs_row (w := (wr.alloc o).drew) (show (wr.alloc o).drew.heap[g]? = _ from (hb1.block g hglt).trans h.ob) hr1 (by decide) hg7, OwnB.row (w := (wr.alloc o).drew) (show OwnB (wr.alloc o).drew _ _ _ _ from h.us.alloc o) hr1 (by decide) hg7, OwnB.row (w := (wr.alloc o).drew) (show OwnB (wr.alloc o).drew _ _ _ _ from h.cv.alloc o) hr1 (by decide) hg7, ?_, ?_⟩
  · exact (show Below w0.heap.size w0 (wr.alloc o).drew from (h.bl.trans (hb1.mono hz)).drew).trans (below_blk hr1 hg7 (Nat.le_refl _) (by show w0.heap.size ≤ (wr.alloc o).heap.size; simp; omega))
  · exact (h.fr.trans (Fr.of_below (show Below wr.heap.size wr (wr.alloc o).drew from hb1.drew) hz)).trans (Fr.row hr1 (by decide) (by show w0.heap.size ≤ (wr.alloc o).heap.size; simp; omega) hg7)
theorem TkW.append {w7 : World} {G T : Nat} {o : Obj} (h : TkW w0 wo wr g left sp P A n c gu gc (some ⟨G, 0, none⟩) s kc Rk X U L) (hT : T < X.length) (hg7 : (wr.alloc o).drew.grownBy w7 (blk (Rk T).1)) {A7 : Option Addr} {c7 : Nat} {zs : List Int} (ho7 : OwnI w7 w0.heap.size A7 c7 zs) (ha7 : blk A7 = blk (Rk T).1 ∨ blk A7 = some (wr.alloc o).drew.heap.size) :
    TkW w0 wo (w7.setCell ⟨G, T, none⟩ (.slice A7 zs.length c7)) g left sp P A n c gu gc (some ⟨G, 0, none⟩) s kc (putS Rk T A7 c7) (X.set T zs) U L := by
  obtain ⟨h1, h2, h3⟩ := h.head_ne
  obtain ⟨q1, q2, q3, q4, q5⟩ := h.row_ hT hg7
  have hpr := OwnM.put_row (w := (wr.alloc o).drew) (show OwnM (wr.alloc o).drew _ _ _ _ _ from (h.ks.alloc o).drewN 1) hT hg7 ho7 ha7
  obtain ⟨hG, cur, e3⟩ := own_typed h.ks.own (blk_some G 0)
  have e7 : w7.heap[G]? = some (Obj.cells cur 43) := by
    have hlt := h.ks.lt rfl
    have hn := (show OwnM (wr.alloc o).drew _ _ _ _ _ from (h.ks.alloc o).drewN 1).outer_ne hT rfl
    rw [hg7.block G (by show G < (wr.alloc o).heap.size; simp; omega) (fun e => by
      obtain ⟨_, cur', e4⟩ := own_typed (h.ks.rows T hT) e.symm
      rw [e3] at e4
      injection e4 with e4
      injection e4 with _ e5 _
      exact absurd e5 (by decide))]
    exact ((below_boxed wr o).block G hlt.2).trans e3
  exact ⟨(Below.heap_setCell w7 ⟨G, T, none⟩ _ g h1).trans q1, q2.setCell_other (p := ⟨G, T, none⟩) h2 _, q3.setCell_other (p := ⟨G, T, none⟩) h3 _, hpr, q4.setCell (p := ⟨G, T, none⟩) hG _, q5.trans (Fr.set e7 (by decide) hG T _)⟩
end

set_option maxRecDepth 100000 in
set_option maxHeartbeats 8000000 in
theorem takeIn_c (w0 w : World) {g left P n c gu gc kc T k : Nat} {sp : Bool} {A K : Option Addr} {Rk : Spine} {Y : List (List Int)} {ys U L : List Int} (hg : w0.heap.size ≤ g)
    (h : w.heap[g]? = some (rsObj left sp P A n c gu K (T + 1) kc (.slice (some ⟨gc, 0, none⟩) P P))) (hu : OwnB w w0.heap.size gu n (covV n U)) (hcv : OwnB w w0.heap.size gc P (covV P L)) (hne : gc ≠ gu)
    (hk : OwnM w w0.heap.size K kc Rk (Y ++ [ys])) (hT : Y.length = T) (R : Spine) (xss : List (List Int)) (hr : RdM w0 A c R xss) (hn : xss.length = n) (hD : DsgOk (P : Int) xss) (hB : Below w0.heap.size w0 w) (hkn : k < n) (hT2 : T ≤ 1000) (hys : ys.length ≤ 1000) :
    Calls Try.prog 41 #[.pointer (some ⟨g, 0, none⟩), .int .i64 (k : Int), .bool true] w fun e w' => e = .returned (.tuple #[]) ∧
      ∃ Rk', TkW w0 w w' g left sp P A n c gu gc K (T + 1) kc Rk' (Y ++ [ys ++ [(k : Int)]]) (covV n (U ++ [(k : Int)])) (L ++ row xss k) := by
  have hkx : k < xss.length := by omega
  have hn128 : n ≤ 128 := by have := hD.2.1; omega
  have hX0 : T < (Y ++ [ys]).length := by simp; omega
  obtain ⟨G, eK, hG0, hG1, hGc, hGf⟩ := hk.at_ hX0
  subst eK
  have hTk := Lib.hid (show TkW w0 w w g left sp P A n c gu gc (some ⟨G, 0, none⟩) (T + 1) kc Rk (Y ++ [ys]) (covV n U) L from ⟨h, hu, hcv, hk, hB, Fr.refl _ _ _ _⟩)
  have HT0 := Lib.hid (show TkW w0 w (w.setCell ⟨gu, k, none⟩ (.bool true)) g left sp P A n c gu gc (some ⟨G, 0, none⟩) (T + 1) kc Rk (Y ++ [ys]) (covV n (U ++ [(k : Int)])) (L ++ (row xss k).take 0) from by
    have := hTk.out.used hne k true
    rw [covV_set hkn] at this
    simpa using this)
  obtain ⟨_, _, _, q3, q4, q5, _⟩ := rs_cells h
  obtain ⟨u1, u2⟩ := hu.at_ hkn
  obtain ⟨b, off, rfl, hb, hci⟩ := hr.at_ k hkx
  obtain ⟨_, _, _, r3, _, _, _⟩ := rs_cells HT0.out.ob
  have hci1 := (HT0.out.bl.cell (p := ⟨b, off + k, none⟩) hb).trans hci
  have HRow := Lib.hid (hr.rows k hkx)
  have HRo := Lib.hid (fun (j : Nat) (hj : j < (row xss k).length) => rowOk hD hkx hj)
  have hk0 : (0 : Int) ≤ (k : Int) := by omega
  have hk1 : (k : Int) < (n : Int) := by omega
  obtain ⟨m, hm⟩ : ∃ m, m = (row xss k).length := ⟨_, rfl⟩
  have hm32 : m ≤ 32 := by
    have h1 := setB_iff.1 (blockB_set (hD.2.2 k hkx).1)
    have h2 := nodup_count (P := P) (L := row xss k) (List.Pairwise.imp (fun h => by omega) h1.1) h1.2.1
    have h3 := List.length_filter_le (fun i => hasB (row xss k) ((i : Nat) : Int)) (List.range P)
    rw [List.length_range] at h3
    have h4 := hD.1.2
    omega
  rw [← hm] at hci1
  have HM := Lib.hid hm.symm
  have HTY := Lib.hid hT
  have HNe := Lib.hid hne
  have HX0 := Lib.hid hX0
  have Hys := Lib.hid hys
  clear h hu hcv hk hr hn hD hB hci hb hGc hGf hm hT hX0 hys hkx
  clear hne
  go_enter Try.func41, Try.ntmps41
  go_wp2
  go_loopw [31] (fun v wr => ∃ j : Nat, j ≤ m ∧ v = .int .i64 j ∧ Hid (TkW w0 w wr g left sp P (some ⟨b, off, none⟩) n c gu gc (some ⟨G, 0, none⟩) (T + 1) kc Rk (Y ++ [ys]) (covV n (U ++ [(k : Int)])) (L ++ (row xss k).take j))) (fun v _ => m - (intOf v).toNat)
  case atStart => exact ⟨0, Nat.zero_le _, rfl, HT0⟩
  case round =>
    obtain ⟨j, hj, rfl, HTk⟩ := hrel
    by_cases hjm : j < m
    · have hjx : j < (row xss k).length := by rw [HM.out]; exact hjm
      have hro := HRo.out j hjx
      obtain ⟨b2, off2, e2, hb2, hc2⟩ := HRow.out.at_ j hjx
      have hc2' := (HTk.out.bl.cell (p := ⟨b2, off2 + j, none⟩) hb2).trans hc2
      obtain ⟨x, hx⟩ : ∃ x : Nat, nth (row xss k) j = (x : Int) := ⟨(nth (row xss k) j).toNat, by omega⟩
      rw [hx] at hc2'
      have hxP : x < P := by omega
      obtain ⟨_, _, _, _, _, _, t6⟩ := rs_cells HTk.out.ob
      obtain ⟨v1, v2⟩ := HTk.out.cv.at_ hxP
      have HTn := Lib.hid (HTk.out.cover HNe.out (L' := L ++ (row xss k).take (j + 1)) x true (by rw [covV_set hxP, take_nth hjx, hx, List.append_assoc]))
      have hx0 : (0 : Int) ≤ (x : Int) := by omega
      have hx1 : (x : Int) < (P : Int) := by omega
      rw [e2]
      clear hro hc2 hx hb2 e2
      go_wp2
      go_roundw
      case rel => exact ⟨j + 1, by omega, by go_num, HTn⟩
      case measure => simp [intOf]; omega
    · obtain rfl : j = m := by omega
      have HTk2 := Lib.hid (show TkW w0 w wr g left sp P (some ⟨b, off, none⟩) n c gu gc (some ⟨G, 0, none⟩) (T + 1) kc Rk (Y ++ [ys]) (covV n (U ++ [(k : Int)])) (L ++ row xss k) from by
        have := HTk.out
        rwa [List.take_of_length_le (by rw [HM.out]; omega)] at this)
      obtain ⟨_, _, _, _, _, t5, _⟩ := rs_cells HTk2.out.ob
      obtain ⟨_, eG, _, _, hGc, hGf⟩ := HTk2.out.ks.at_ HX0.out
      injection eG with eG
      injection eG with eG
      subst eG
      have hrl : row (Y ++ [ys]) T = ys := by rw [← HTY.out]; exact row_last
      rw [hrl] at hGc
      obtain ⟨t, ht⟩ : ∃ t, t = ys.length := ⟨_, rfl⟩
      rw [← ht] at hGc
      have ht2 : t ≤ 1000 := by rw [ht]; exact Hys.out
      have HTl := Lib.hid ht.symm
      have HRl := Lib.hid hrl
      have HRx := Lib.hid (show OwnI wr w0.heap.size (Rk T).1 (Rk T).2 ys from by have := HTk2.out.ks.rows T HX0.out; rwa [hrl] at this)
      have hGlt := HTk2.out.ks.lt rfl
      have hglt := rs_lt HTk2.out.ob
      have HOa := Lib.hid (show OwnM (wr.drew.alloc (.cells #[.int .i64 (k : Int)] 2)) w0.heap.size (some ⟨G, 0, none⟩) kc Rk (Y ++ [ys]) from (HTk2.out.ks.drewN 1).alloc (.cells #[.int .i64 (k : Int)] 2))
      have HRa := Lib.hid (show OwnI (wr.drew.alloc (.cells #[.int .i64 (k : Int)] 2)) w0.heap.size (Rk T).1 (Rk T).2 ys from (HRx.out.drewN 1).alloc (.cells #[.int .i64 (k : Int)] 2))
      have hS : wr.drew.cell? ⟨g, 5, none⟩ = some (.slice (some ⟨G, 0, none⟩) (T + 1) kc) := t5
      have hS1 : (wr.drew.alloc (.cells #[.int .i64 (k : Int)] 2)).cell? ⟨g, 5, none⟩ = some (.slice (some ⟨G, 0, none⟩) (T + 1) kc) := ((below_boxed wr.drew _).cell (p := ⟨g, 5, none⟩) hglt).trans hS
      have hc1 : wr.drew.cell? ⟨G, T, none⟩ = some (.slice (Rk T).1 t (Rk T).2) := hGc
      have hc2 : (wr.drew.alloc (.cells #[.int .i64 (k : Int)] 2)).cell? ⟨G, T, none⟩ = some (.slice (Rk T).1 t (Rk T).2) := ((below_boxed wr.drew _).cell (p := ⟨G, T, none⟩) hGlt.2).trans hc1
      have hlz : w0.heap.size ≤ (wr.drew.alloc (.cells #[.int .i64 (k : Int)] 2)).heap.size := by have := HTk2.out.bl.size; simp; omega
      have HRs := Lib.hid (fun (w7 : World) (hg7 : (wr.drew.alloc (.cells #[.int .i64 (k : Int)] 2)).grownBy w7 (blk (Rk T).1)) => rs_row (w := wr.drew.alloc (.cells #[.int .i64 (k : Int)] 2)) (show (wr.drew.alloc (.cells #[.int .i64 (k : Int)] 2)).heap[g]? = _ from ((below_boxed wr.drew _).block g hglt).trans HTk2.out.ob) HRa.out (by decide) hg7)
      have hgG : g ≠ G := fun e => by
        obtain ⟨_, cur, e3⟩ := own_typed HTk2.out.ks.own (blk_some G 0)
        have := HTk2.out.ob
        rw [e, e3] at this
        injection this with this
        injection this with _ e4 _
        exact absurd e4 (by decide)
      have HAp := Lib.hid (fun (w7 : World) (A7 : Option Addr) (c7 : Nat) (hg7 : (wr.alloc (.cells #[.int .i64 (k : Int)] 2)).drew.grownBy w7 (blk (Rk T).1)) (ho7 : OwnI w7 w0.heap.size A7 c7 (ys ++ [(k : Int)])) (ha7 : blk A7 = blk (Rk T).1 ∨ blk A7 = some (wr.alloc (.cells #[.int .i64 (k : Int)] 2)).drew.heap.size) => (show TkW w0 w (w7.setCell ⟨G, T, none⟩ (.slice A7 (t + 1) c7)) g left sp P (some ⟨b, off, none⟩) n c gu gc (some ⟨G, 0, none⟩) (T + 1) kc (putS Rk T A7 c7) (Y ++ [ys ++ [(k : Int)]]) (covV n (U ++ [(k : Int)])) (L ++ row xss k) from by
        have := HTk2.out.append HX0.out hg7 ho7 ha7
        rw [List.length_append, HTl.out] at this
        rw [← HTY.out, set_last, HTY.out] at this
        exact this))
      have hT0 : (0 : Int) ≤ (T : Int) := by omega
      have hT1 : (T : Int) < (T : Int) + 1 := by omega
      clear hrl ht hS hS1 hc1 hc2
      go_wp2
      go_region_law (refine stepI_append rfl _ _ rfl w0.heap.size (Rk T).1 (Rk T).2 t ys (k : Int) wr.heap.size (by rfl) (by rfl) HTl.out (by exact HRa.out) (by exact World.cell?_alloc_at _ _ _ _ rfl) (by omega) (by exact hlz) ?_; intro A7 c7 w7 ho7 hg7 ha7; obtain ⟨hcx7, hfx7⟩ := HOa.out.outer_at HX0.out hg7; have hob7 := HRs.out w7 hg7; have hS7 := (rs_cells hob7).2.2.2.2.2.1)
      all_goals
        have HF := Lib.hid (HAp.out w7 A7 c7 hg7 ho7 ha7)
        clear ho7 hg7 ha7 hcx7 hfx7 hob7 hS7
        go_wp2
        go_end0
        exact ⟨rfl, _, HF.out⟩

end Go.Proofs.Ythgbfgdnljgicab
