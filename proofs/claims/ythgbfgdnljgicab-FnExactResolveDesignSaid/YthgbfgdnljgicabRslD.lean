/-
  The program's search for a resolution: take, the block taken out again. Conditions: those of each theorem.
-/
import Derived.Test.YthgbfgdnljgicabRslC
namespace Go.Proofs.Ythgbfgdnljgicab
open Go.RowKit
set_option linter.unusedVariables false
set_option linter.unusedSimpArgs false

set_option maxRecDepth 100000 in
set_option maxHeartbeats 8000000 in
theorem takeOut_c (w0 w : World) {g left P n c gu gc kc T k : Nat} {sp : Bool} {A K : Option Addr} {Rk : Spine} {Y : List (List Int)} {ys U L : List Int}
    (h : w.heap[g]? = some (rsObj left sp P A n c gu K (T + 1) kc (.slice (some ⟨gc, 0, none⟩) P P))) (hu : OwnB w w0.heap.size gu n (covV n (U ++ [(k : Int)]))) (R : Spine) (xss : List (List Int)) (hcv : OwnB w w0.heap.size gc P (covV P (L ++ row xss k))) (hne : gc ≠ gu)
    (hk : OwnM w w0.heap.size K kc Rk (Y ++ [ys ++ [(k : Int)]])) (hT : Y.length = T) (hr : RdM w0 A c R xss) (hn : xss.length = n) (hD : DsgOk (P : Int) xss) (hB : Below w0.heap.size w0 w) (hkn : k < n) (hT2 : T ≤ 1000) (hys : ys.length ≤ 1000) (hU : (k : Int) ∉ U) (hnd : (L ++ row xss k).Nodup) :
    Calls Try.prog 41 #[.pointer (some ⟨g, 0, none⟩), .int .i64 (k : Int), .bool false] w fun e w' => e = .returned (.tuple #[]) ∧
      ∃ Rk', TkW w0 w w' g left sp P A n c gu gc K (T + 1) kc Rk' (Y ++ [ys]) (covV n U) L := by
  have hkx : k < xss.length := by omega
  have hn128 : n ≤ 128 := by have := hD.2.1; omega
  have hX0 : T < (Y ++ [ys ++ [(k : Int)]]).length := by simp; omega
  obtain ⟨G, eK, hG0, hG1, hGc, hGf⟩ := hk.at_ hX0
  subst eK
  have hTk := Lib.hid (show TkW w0 w w g left sp P A n c gu gc (some ⟨G, 0, none⟩) (T + 1) kc Rk (Y ++ [ys ++ [(k : Int)]]) (covV n (U ++ [(k : Int)])) (L ++ row xss k) from ⟨h, hu, hcv, hk, hB, Fr.refl _ _ _ _⟩)
  have HT0 := Lib.hid (show TkW w0 w (w.setCell ⟨gu, k, none⟩ (.bool false)) g left sp P A n c gu gc (some ⟨G, 0, none⟩) (T + 1) kc Rk (Y ++ [ys ++ [(k : Int)]]) (covV n U) (L ++ (row xss k).drop 0) from by
    have := hTk.out.used hne k false
    rw [show U ++ [(k : Int)] = U ++ (k : Int) :: [] from rfl, covV_unset hkn hU (by simp)] at this
    simpa using this)
  obtain ⟨_, _, _, q3, q4, q5, _⟩ := rs_cells h
  obtain ⟨u1, u2⟩ := hu.at_ hkn
  obtain ⟨b, off, rfl, hb, hci⟩ := hr.at_ k hkx
  obtain ⟨_, _, _, r3, _, _, _⟩ := rs_cells HT0.out.ob
  have hci1 := (HT0.out.bl.cell (p := ⟨b, off + k, none⟩) hb).trans hci
  have HRow := Lib.hid (hr.rows k hkx)
  have HRo := Lib.hid (fun (j : Nat) (hj : j < (row xss k).length) => rowOk hD hkx hj)
  have hk0 : (0 : Int) ≤ (k : Int) := by omega
  have hk1 : (k : Int) < (n : Int) := by omega
  obtain ⟨m, hm⟩ : ∃ m, m = (row xss k).length := ⟨_, rfl⟩
  have hm32 : m ≤ 32 := by
    have h1 := setB_iff.1 (blockB_set (hD.2.2 k hkx).1)
    have h2 := nodup_count (P := P) (L := row xss k) (List.Pairwise.imp (fun h => by omega) h1.1) h1.2.1
    have h3 := List.length_filter_le (fun i => hasB (row xss k) ((i : Nat) : Int)) (List.range P)
    rw [List.length_range] at h3
    have h4 := hD.1.2
    omega
  rw [← hm] at hci1
  have HM := Lib.hid hm.symm
  have HTY := Lib.hid hT
  have HNe := Lib.hid hne
  have HX0 := Lib.hid hX0
  have Hys := Lib.hid hys
  have HNd := Lib.hid hnd
  clear h hu hcv hk hr hn hD hB hci hb hGc hGf hm hT hX0 hys hkx hU hnd
  clear hne
  go_enter Try.func41, Try.ntmps41
  go_wp2
  go_loopw [31] (fun v wr => ∃ j : Nat, j ≤ m ∧ v = .int .i64 j ∧ Hid (TkW w0 w wr g left sp P (some ⟨b, off, none⟩) n c gu gc (some ⟨G, 0, none⟩) (T + 1) kc Rk (Y ++ [ys ++ [(k : Int)]]) (covV n U) (L ++ (row xss k).drop j))) (fun v _ => m - (intOf v).toNat)
  case atStart => exact ⟨0, Nat.zero_le _, rfl, HT0⟩
  case round =>
    obtain ⟨j, hj, rfl, HTk⟩ := hrel
    by_cases hjm : j < m
    · have hjx : j < (row xss k).length := by rw [HM.out]; exact hjm
      have hro := HRo.out j hjx
      obtain ⟨b2, off2, e2, hb2, hc2⟩ := HRow.out.at_ j hjx
      have hc2' := (HTk.out.bl.cell (p := ⟨b2, off2 + j, none⟩) hb2).trans hc2
      obtain ⟨x, hx⟩ : ∃ x : Nat, nth (row xss k) j = (x : Int) := ⟨(nth (row xss k) j).toNat, by omega⟩
      rw [hx] at hc2'
      have hxP : x < P := by omega
      obtain ⟨_, _, _, _, _, _, t6⟩ := rs_cells HTk.out.ob
      obtain ⟨v1, v2⟩ := HTk.out.cv.at_ hxP
      have HTn := Lib.hid (HTk.out.cover HNe.out (L' := L ++ (row xss k).drop (j + 1)) x false (by
        have h1 := HNd.out
        rw [← List.take_append_drop j (row xss k), List.drop_eq_getElem_cons hjx, ← nth_eq hjx, hx] at h1
        rw [List.drop_eq_getElem_cons hjx, ← nth_eq hjx, hx]
        obtain ⟨_, h2, h3⟩ := List.nodup_append.1 h1
        obtain ⟨_, h4, _⟩ := List.nodup_append.1 h2
        exact covV_unset hxP (fun hm => h3 _ hm _ (List.mem_append.2 (.inr (List.mem_cons_self ..))) rfl) (List.nodup_cons.1 h4).1))
      have hx0 : (0 : Int) ≤ (x : Int) := by omega
      have hx1 : (x : Int) < (P : Int) := by omega
      rw [e2]
      clear hro hc2 hx hb2 e2
      go_wp2
      go_roundw
      case rel => exact ⟨j + 1, by omega, by go_num, HTn⟩
      case measure => simp [intOf]; omega
    · obtain rfl : j = m := by omega
      have HTk2 := Lib.hid (show TkW w0 w wr g left sp P (some ⟨b, off, none⟩) n c gu gc (some ⟨G, 0, none⟩) (T + 1) kc Rk (Y ++ [ys ++ [(k : Int)]]) (covV n U) L from by
        have := HTk.out
        rwa [List.drop_eq_nil_of_le (by rw [HM.out]; omega), List.append_nil] at this)
      obtain ⟨_, _, _, _, _, t5, _⟩ := rs_cells HTk2.out.ob
      obtain ⟨_, eG, _, _, hGc, hGf⟩ := HTk2.out.ks.at_ HX0.out
      injection eG with eG
      injection eG with eG
      subst eG
      have hrl : row (Y ++ [ys ++ [(k : Int)]]) T = ys ++ [(k : Int)] := by rw [← HTY.out]; exact row_last
      have hRx : OwnI wr w0.heap.size (Rk T).1 (Rk T).2 (ys ++ [(k : Int)]) := by have := HTk2.out.ks.rows T HX0.out; rwa [hrl] at this
      obtain ⟨t, ht⟩ : ∃ t, t = ys.length := ⟨_, rfl⟩
      rw [hrl, show (ys ++ [(k : Int)]).length = t + 1 by rw [List.length_append, ht]; rfl] at hGc
      have ht2 : t ≤ 1000 := by rw [ht]; exact Hys.out
      obtain ⟨g9, e9, _, _, _, _⟩ := hRx.at_ (k := 0) (by simp)
      have hcr : t + 1 ≤ (Rk T).2 := by have := hRx.rd.le; rw [List.length_append, ← ht] at this; exact this
      have HSt := Lib.hid (show TkW w0 w (wr.drew.setCell ⟨G, T, none⟩ (.slice (Rk T).1 t (Rk T).2)) g left sp P (some ⟨b, off, none⟩) n c gu gc (some ⟨G, 0, none⟩) (T + 1) kc (putS Rk T (Rk T).1 (Rk T).2) (Y ++ [ys]) (covV n U) L from by
        have hd : TkW w0 w wr.drew g left sp P (some ⟨b, off, none⟩) n c gu gc (some ⟨G, 0, none⟩) (T + 1) kc Rk (Y ++ [ys ++ [(k : Int)]]) (covV n U) L := ⟨HTk2.out.ob, HTk2.out.us, HTk2.out.cv, HTk2.out.ks.drewN 1, HTk2.out.bl.drew, HTk2.out.fr.drewN 1⟩
        have hp := hd.ks.put_row HX0.out (w' := wr.drew) ⟨rfl, rfl, rfl, Nat.le_refl _, fun _ _ _ => rfl⟩ (show OwnI wr.drew w0.heap.size (Rk T).1 (Rk T).2 ys from (hRx.front).drewN 1) (.inl rfl)
        rw [← ht] at hp
        rw [← HTY.out, set_last, HTY.out] at hp
        exact hd.store hp)
      have hT0 : (0 : Int) ≤ (T : Int) := by omega
      have hT1 : (T : Int) < (T : Int) + 1 := by omega
      have HE9 := Lib.hid e9
      rw [e9] at hGc HSt
      clear hrl ht hRx e9
      generalize (Rk T).2 = cr at *
      have hq2 : (0 : Int) ≤ (t : Int) := by omega
      have hq3 : (t : Int) ≤ (cr : Int) := by omega
      have hq4 : t ≤ cr := by omega
      have hq1 : IntKind.i64.wrap (t : Int) = (t : Int) := IntWalk.i64_in _ (by omega)
      go_wp2
      go_still_tail 22, (by kernel_rfl)
      change wpList _ _ _ _ _ (World.drew _)
      go_wp2
      go_end0
      exact ⟨rfl, _, HSt.out⟩
end Go.Proofs.Ythgbfgdnljgicab
