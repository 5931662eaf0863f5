/-
  HomeTeams of the program. Conditions: those of each theorem.
-/
import Derived.Test.YtcdbbcnoleilfaaHomS
import Derived.Test.YtcdbbcnoleilfaaRound3
import Derived.Test.YtcdbbcnoleilfaaBsr
namespace Go.Proofs.Ytcdbbcnoleilfaa
open Go.RowKit
set_option linter.unusedVariables false
set_option linter.unusedSimpArgs false

theorem hL_strict {m h r a b : Nat} (hm : m = 2 * h + 1) (hr : r < m) (hab : a < b) (hb : b < h + 1) : cmpL (row (hL m r h) a) (row (hL m r h) b) < 0 := by
  have hl := hL_len m r h
  have h1 := (List.pairwise_iff_getElem.1 (sortLL_pw ((List.range (h + 1)).map (hPr m r)))) a b (by rw [sortLL_len]; simp; omega) (by rw [sortLL_len]; simp; omega) hab
  have h2 : cmpL (row (hL m r h) a) (row (hL m r h) b) ≤ 0 := by rw [row_eq (by omega), row_eq (by omega)]; exact h1
  have h3 : cmpL (row (hL m r h) a) (row (hL m r h) b) ≠ 0 := fun e => by
    have e2 := cmpL_zero e
    rw [row_eq (by omega), row_eq (by omega)] at e2
    have := (List.getElem_inj (hL_nodup hm hr)).1 e2
    omega
  omega

set_option maxRecDepth 100000 in
set_option maxHeartbeats 4000000 in
/-- A pair's home team is put into its place. -/
theorem homPlace_c (W : World) (Br Bh m h r k i lo : Nat) (A : Option Addr) (n c : Nat) (R : Spine) (g cH : Nat) (xs : List Int)
    (hm : m = 2 * h + 1) (hr : r < m) (hh : h ≤ 15) (hk : k ≤ h) (hcR : W.cell? ⟨Br, 0, none⟩ = some (.slice A n c)) (hrd : RdM W A c R (hL m r h)) (hn : n = h + 1)
    (hcH : W.cell? ⟨Bh, 0, none⟩ = some (.slice (some ⟨g, 0, none⟩) n cH)) (hO : OwnI W lo (some ⟨g, 0, none⟩) cH xs) (hxl : xs.length = n) (hi : i < n) (hrow : row (hL m r h) i = hPr m r k) (hBg : Bh ≠ g) :
    Calls Try.prog 39 #[.int .i64 (hA m r k : Int), .int .i64 (hB m r k : Int), .bool (hFst r k), .pointer (some ⟨Br, 0, none⟩), .pointer (some ⟨Bh, 0, none⟩)] W
      fun e w' => (∃ v, e = .returned v) ∧ OwnI w' lo (some ⟨g, 0, none⟩) cH (xs.set i (hPk m r k : Int)) ∧ Below g W w' ∧ ∀ q, q < W.heap.size → q ≠ g → w'.heap[q]? = W.heap[q]? := by
  have hlt := hm_lt hm hr hk
  have HPa := Lib.hid (fun W' => paired_c W' (hA m r k) (hB m r k) (by omega) (by omega))
  have HBs := Lib.hid (fun (W' : World) (hb : Below W.heap.size W W') (B : Option Addr) (mm d : Nat) (hs : RdI W' B d (prL (hA m r k) (hB m r k))) (hmm : (prL (hA m r k) (hB m r k)).length = mm) =>
    bsearch_c W' A B n c mm d R (hL m r h) (prL (hA m r k) (hB m r k)) (hrd.below hb) (by rw [hL_len]; exact hn.symm) (by omega) hs hmm i hi
      (fun j hj => by have := hL_strict (h := h) hm hr hj (by omega); rw [hrow] at this; exact this)
      (fun j hj hjn => by
        rcases Nat.lt_or_ge i j with e | e
        · have := hL_strict (h := h) hm hr e (by omega)
          rw [hrow, cmpL_neg] at this
          have h9 : 0 < cmpL (row (hL m r h) j) (hPr m r k) := by omega
          exact Int.le_of_lt h9
        · obtain rfl : j = i := by omega
          rw [hrow]; exact Int.le_of_eq (cmpL_self _).symm)
      (by rw [hrow]; exact cmpL_self _))
  have hPk' : (hPk m r k : Int) = if hFst r k = true then (hA m r k : Int) else (hB m r k : Int) := by unfold hPk; split <;> rfl
  have hg := (hO.lt rfl).2
  have hbr := cell_size hcR
  have hbh := cell_size hcH
  have HO := Lib.hid hO
  have HPk := Lib.hid hPk'
  have hi0 : (0 : Int) ≤ (i : Int) := by omega
  have hi1 : (i : Int) < (n : Int) := by omega
  have hBd : Below W.heap.size W W.drew := (Below.refl _ _).drew
  have HXl := Lib.hid hxl
  clear hm hr hrd hO hrow hPk' hlt hk hn hxl
  generalize hPk m r k = pk at *
  generalize hA m r k = a at *
  generalize hB m r k = b at *
  generalize hFst r k = fb at *
  rcases fb with _ | _
  · go_enter Try.func39, Try.ntmps39
    go_wp2
    go_region_held3 (fun w' => w'.cell? ⟨Br, 0, none⟩ = some (.slice A n c)) (first | exact hcR | exact hS5 | exact (hBd.cell (p := ⟨Br, 0, none⟩) hbr).trans hcR)
      (first | (go_at_call 41; (with_reducible refine (HPa.out _).mono ?_); rintro e w5 ⟨⟨A5, n5, c5, rfl, hn5, ho5⟩, hb5⟩; have hbl : Below W.heap.size W w5 := hBd.trans hb5; have hS5 := (hbl.cell (p := ⟨Br, 0, none⟩) hbr).trans hcR) | (go_at_call 40; (with_reducible refine (HBs.out w5 hbl A5 n5 c5 ho5.rd hn5).mono ?_); rintro e w6 ⟨rfl, rfl⟩))
    have hOb : OwnI w5 lo (some ⟨g, 0, none⟩) cH xs := HO.out.below hbl
    have hch5 := (hbl.cell (p := ⟨Bh, 0, none⟩) hbh).trans hcH
    clear hcR hcH hS5 hn5 ho5 hb5 HO
    have hcx := (hOb.at_ (k := i) (by rw [HXl.out]; exact hi))
    obtain ⟨_, eg, _, _, hcx, hfx⟩ := hcx
    injection eg with eg
    injection eg with eg
    subst eg
    have HF := Lib.hid (show OwnI (w5.setCell ⟨g, i, none⟩ (.int .i64 (b : Int))) lo (some ⟨g, 0, none⟩) cH (xs.set i (pk : Int)) from by
      have hpk : (pk : Int) = (b : Int) := by have := HPk.out; simpa using this
      rw [hpk]; exact hOb.stored i (b : Int))
    clear hOb
    go_wp2
    go_end0
    exact ⟨⟨_, rfl⟩, HF.out, (hbl.mono (show g ≤ W.heap.size by omega)).setCell (p := ⟨g, i, none⟩) (Nat.le_refl _) _, fun q hq hne => (Below.heap_setCell _ _ _ _ hne).trans (hbl.block q hq)⟩
  · go_enter Try.func39, Try.ntmps39
    go_wp2
    go_region_held3 (fun w' => w'.cell? ⟨Br, 0, none⟩ = some (.slice A n c)) (first | exact hcR | exact hS5 | exact (hBd.cell (p := ⟨Br, 0, none⟩) hbr).trans hcR)
      (first | (go_at_call 41; (with_reducible refine (HPa.out _).mono ?_); rintro e w5 ⟨⟨A5, n5, c5, rfl, hn5, ho5⟩, hb5⟩; have hbl : Below W.heap.size W w5 := hBd.trans hb5; have hS5 := (hbl.cell (p := ⟨Br, 0, none⟩) hbr).trans hcR) | (go_at_call 40; (with_reducible refine (HBs.out w5 hbl A5 n5 c5 ho5.rd hn5).mono ?_); rintro e w6 ⟨rfl, rfl⟩))
    have hOb : OwnI w5 lo (some ⟨g, 0, none⟩) cH xs := HO.out.below hbl
    have hch5 := (hbl.cell (p := ⟨Bh, 0, none⟩) hbh).trans hcH
    clear hcR hcH hS5 hn5 ho5 hb5 HO
    have hcx := (hOb.at_ (k := i) (by rw [HXl.out]; exact hi))
    obtain ⟨_, eg, _, _, hcx, hfx⟩ := hcx
    injection eg with eg
    injection eg with eg
    subst eg
    have hO2 := hOb.stored i (b : Int)
    obtain ⟨_, eg, _, _, hcx2, hfx2⟩ := hO2.at_ (k := i) (by rw [List.length_set, HXl.out]; exact hi)
    injection eg with eg
    injection eg with eg
    subst eg
    have hch2 : (w5.setCell ⟨g, i, none⟩ (.int .i64 (b : Int))).cell? ⟨Bh, 0, none⟩ = some (.slice (some ⟨g, 0, none⟩) n cH) := (World.cell?_of_block (Below.heap_setCell _ _ _ _ hBg)).trans hch5
    have HF := Lib.hid (show OwnI ((w5.setCell ⟨g, i, none⟩ (.int .i64 (b : Int))).setCell ⟨g, i, none⟩ (.int .i64 (a : Int))) lo (some ⟨g, 0, none⟩) cH (xs.set i (pk : Int)) from by
      have := hO2.stored i (a : Int)
      rw [List.set_set] at this
      have hpk : (pk : Int) = (a : Int) := by have := HPk.out; simpa using this
      rw [hpk]; exact this)
    clear hOb hO2
    go_wp2
    go_end0
    exact ⟨⟨_, rfl⟩, HF.out, ((hbl.mono (show g ≤ W.heap.size by omega)).setCell (p := ⟨g, i, none⟩) (Nat.le_refl _) _).setCell (p := ⟨g, i, none⟩) (Nat.le_refl _) _, fun q hq hne => ((Below.heap_setCell _ _ _ _ hne).trans (Below.heap_setCell _ _ _ _ hne)).trans (hbl.block q hq)⟩

/-- What stands behind k placings of a round. -/
def HomPost (wo : World) (m h r k : Nat) (Ar : Option Addr) (h1 cr : Nat) (e : Ending) (w' : World) : Prop :=
  (∃ v, e = .returned v) ∧ OwnI w' wo.heap.size (some ⟨wo.heap.size + 1, 0, none⟩) h1 ((hL m r h).map (hV m r h k)) ∧ Below wo.heap.size wo w' ∧ wo.heap.size + 3 ≤ w'.heap.size ∧ (w'.cell? ⟨wo.heap.size, 0, none⟩ = some (.slice Ar h1 cr) ∧ w'.cell? ⟨wo.heap.size + 2, 0, none⟩ = some (.slice (some ⟨wo.heap.size + 1, 0, none⟩) h1 h1))

set_option maxRecDepth 100000 in
set_option maxHeartbeats 8000000 in
theorem implHomeTeams_c (w : World) (n : Int) (hn64 : -9223372036854775808 ≤ n ∧ n ≤ 9223372036854775807) : Calls Try.prog 10 #[.int .i64 n] w (PostMC w (hoX n) (hoC n)) := by
  have hmf : ∀ (fn : Fn) (first cap : Array Value) (w : World), (Instr.makeFunc fn first cap).run Try.prog w = .ok (.func fn first cap) w := fun _ _ _ _ => rfl
  have HI := isTeamsR_c n w
  rcases hi : inB n 2 32 with _ | _
  · rw [hi] at HI
    have HI := Lib.hid HI
    rw [show hoX n = [] by unfold hoX hoOk; rw [hi]; rfl, show hoC n = 2 by unfold hoC hoOk; rw [hi]; rfl]
    clear hi
    go_enter Try.func10, Try.ntmps10
    go_wp2_with fail
    refine (HI.out).mono ?_
    rintro e w' ⟨rfl, rfl⟩
    go_wp2
    go_ret2
    exact ⟨⟨none, 0, 0, fun _ => (none, 0), rfl, rfl, OwnM.nil_ _ _ _⟩, Below.refl _ _⟩
  rw [hi] at HI
  have HI := Lib.hid HI
  have hb := inB_true.1 hi
  by_cases h2 : Int.tmod n 2 = 0
  rotate_left
  · have h2' : (Int.tmod n 2 != 0) = true := by simp; exact h2
    have ho : hoOk n = false := by unfold hoOk; rw [hi, decide_eq_false h2]; rfl
    rw [show hoX n = [] by unfold hoX; rw [ho]; rfl, show hoC n = 2 by unfold hoC; rw [ho]; rfl]
    rw [Int.tmod_eq_emod_of_nonneg (by omega)] at h2 h2'
    clear hi ho
    go_enter Try.func10, Try.ntmps10
    go_wp2_with fail
    refine (HI.out).mono ?_
    rintro e w' ⟨rfl, rfl⟩
    go_wp2
    go_ret2
    exact ⟨⟨none, 0, 0, fun _ => (none, 0), rfl, rfl, OwnM.nil_ _ _ _⟩, Below.refl _ _⟩
  have ho : hoOk n = true := by unfold hoOk; rw [hi, decide_eq_true h2]; rfl
  obtain ⟨h, hnh, hh15⟩ := ho_facts ho
  obtain ⟨N, hN⟩ : ∃ N, N = 2 * h + 2 := ⟨_, rfl⟩
  obtain ⟨m, hm⟩ : ∃ m, m = 2 * h + 1 := ⟨_, rfl⟩
  rw [← hN] at hnh
  subst hnh
  rw [show hoX (N : Int) = hoTo m h m by unfold hoX; rw [if_pos ho, show ((N : Int)).toNat - 1 = m by omega, show (((N : Int)).toNat - 2) / 2 = h by omega], show hoC (N : Int) = 0 by unfold hoC; rw [if_pos ho]]
  obtain ⟨h1, hh1⟩ : ∃ h1, h1 = h + 1 := ⟨_, rfl⟩
  have HH1 := Lib.hid hh1
  have hh1a : h + 1 ≤ h1 := by omega
  have hh1b : h1 ≤ h + 1 := by omega
  have hNm : N = m + 1 := by omega
  have hL0 := implRoundRobin_c w (N : Int) hn64
  rw [show rrL (N : Int) = rsTo N m m by unfold rrL; rw [if_pos hi, show ((N : Int)).toNat = N by omega, show rmod N = m by unfold rmod; omega], show rrC (N : Int) = 0 by unfold rrC; rw [if_pos hi]] at hL0
  have HL := Lib.hid hL0
  have HPl := Lib.hid (fun (r : Nat) (hr : r < m) => rs_pln (h := h) hNm (by omega) (by omega) hr)
  have h2' : ((N : Int) % 2 != 0) = false := by simp; omega
  have h2'' : (N : Int) % 2 = 0 := by omega
  have HMh := Lib.hid hm
  have hm31 : m ≤ 31 := by omega
  have hN32 : N ≤ 32 := by omega
  have hm1 : 1 ≤ m := by omega
  have hhm : h < m := by omega
  have hmN : m < N := by omega
  have hS1 : IntKind.i64.wrap ((N : Int) - 1) = (m : Int) := by rw [show (N : Int) - 1 = (m : Int) by omega]; exact IntWalk.i64_in _ (by omega)
  have HN1 := Lib.hid (show (N : Int) - 1 = (m : Int) by omega)
  have HNd := Lib.hid (show (N : Int) / 2 = (h1 : Int) by omega)
  have hTd : Int.tdiv (N : Int) 2 = (h1 : Int) := by rw [Int.tdiv_eq_ediv_of_nonneg (by omega)]; omega
  have HNm := Lib.hid hNm
  have hmk := fun W : World => run_make_row' (P := Try.prog) 52 2 (.int .i64 0) 8 Try.underlying52 infoI rfl .i64 .i64 h1 (by omega) (by omega) W
  have eg := Lib.hid (enters_of Try.func39 (by kernel_rfl) rfl : ∀ args w, (callFunc 39 args).run Try.prog w = .ok (.enter 39 args) w)
  clear hi hb h2 ho hN hh1 hL0 hNm hm
  go_enter Try.func10, Try.ntmps10
  go_wp2_with fail
  refine (HI.out).mono ?_
  rintro e w' ⟨rfl, rfl⟩
  go_wp2_with fail
  refine (HL.out).mono ?_
  rintro e w2 ⟨⟨A2, n2, c2, S, I, rfl, hn2, ho2⟩, hb2⟩
  rw [rsTo_len] at hn2
  obtain rfl : n2 = m := hn2.symm
  have HO2 := Lib.hid ho2
  have HB2 := Lib.hid hb2
  have HE0 := Lib.hid (OwnM.nil_ w2 w2.heap.size (fun _ => (none, 0)))
  have HEb0 := Lib.hid (Below.refl w2.heap.size w2)
  have HRl := Lib.hid (rsTo_len N n2 n2)
  clear hb2 ho2 hn2
  go_wp2
  go_loopw [6, 28] (fun o v wr => ∃ (r : Nat) (A' : Option Addr) (c' : Nat) (R' : Spine), r ≤ n2 ∧ v = .int .i64 r ∧ o = .slice A' r c' ∧ Hid (OwnM wr w2.heap.size A' c' R' (hoTo n2 h r)) ∧ Hid (Below w2.heap.size w2 wr)) (fun _ v _ => n2 - (intOf v).toNat)
  case atStart => exact ⟨0, _, _, _, Nat.zero_le _, rfl, rfl, HE0, HEb0⟩
  case round =>
    obtain ⟨r, A', c', R', hr, rfl, rfl, HO, HB⟩ := hrel
    have hsz := HB.out.size
    by_cases hrm : r < n2
    · obtain ⟨g2, eg2, _, hg2, hcr, _⟩ := HO2.out.at_ (k := r) (by rw [HRl.out]; exact hrm)
      have hrw := (HO2.out.rows r (by rw [HRl.out]; exact hrm)).own.rd
      rw [HPl.out r hrm, hL_len, ← HH1.out] at hcr
      rw [HPl.out r hrm] at hrw
      subst eg2
      generalize (S r).1 = Ar at *
      generalize (S r).2.1 = cr at *
      generalize (S r).2.2 = Rr at *
      have HRw := Lib.hid hrw
      have hcrr := (HB.out.cell (p := ⟨g2, r, none⟩) hg2).trans hcr
      obtain ⟨wo, rfl⟩ : ∃ wo, wo = wr := ⟨_, rfl⟩
      have hr0 : (0 : Int) ≤ (r : Int) := by omega
      have hr1 : (r : Int) < (n2 : Int) := by omega
      obtain ⟨w3, hw3⟩ : ∃ w3, w3 = ((wo.alloc (.cells #[.slice Ar h1 cr] 22)).alloc (.cells (madeCells #[.int .i64 0] h1) 2)).alloc (.cells #[.slice (some ⟨wo.heap.size + 1, 0, none⟩) h1 h1] 52) := ⟨_, rfl⟩
      have hb3 : Below wo.heap.size wo w3 := by rw [hw3]; exact (((Below.refl _ _).alloc (Nat.le_refl _) _).alloc (by simp) _).alloc (by simp; omega) _
      have hs3 : w3.heap.size = wo.heap.size + 3 := by rw [hw3]; simp
      have hc3a : w3.cell? ⟨wo.heap.size, 0, none⟩ = some (.slice Ar h1 cr) := by rw [hw3]; simp [go_sem]
      have hc3b : w3.cell? ⟨wo.heap.size + 2, 0, none⟩ = some (.slice (some ⟨wo.heap.size + 1, 0, none⟩) h1 h1) := by rw [hw3]; simp [go_sem]
      have hO3 : OwnI w3 wo.heap.size (some ⟨wo.heap.size + 1, 0, none⟩) h1 ((hL n2 r h).map (hV n2 r h 0)) := by
        have := OwnI.made (wo.alloc (.cells #[.slice Ar h1 cr] 22)) h1 (by unfold maxLen; omega) (lo := wo.heap.size) (by simp)
        rw [hV_zero, ← HH1.out, hw3]
        have h9 : (List.range h1).map (fun _ => (0 : Int)) = List.replicate h1 0 := by rw [List.map_const', List.length_range]
        rw [h9]
        have h8 := this.alloc (.cells #[.slice (some ⟨wo.heap.size + 1, 0, none⟩) h1 h1] 52)
        simpa using h8
      have HB3 := Lib.hid hb3
      have HC3 := Lib.hid (And.intro hc3a hc3b)
      have HO3 := Lib.hid hO3
      have HS3 := Lib.hid hs3
      have HW3 := Lib.hid hw3
      -- one placing
      have HPc := Lib.hid (fun (W : World) (k : Nat) (hk : k ≤ h) (hbW : Below wo.heap.size wo W) (hsW : wo.heap.size + 3 ≤ W.heap.size) (hcW : W.cell? ⟨wo.heap.size, 0, none⟩ = some (.slice Ar h1 cr) ∧ W.cell? ⟨wo.heap.size + 2, 0, none⟩ = some (.slice (some ⟨wo.heap.size + 1, 0, none⟩) h1 h1))
          (hoW : OwnI W wo.heap.size (some ⟨wo.heap.size + 1, 0, none⟩) h1 ((hL n2 r h).map (hV n2 r h k))) => by
        obtain ⟨i, hi, hrow⟩ := hL_at (m := n2) (r := r) hk
        have h0 := homPlace_c W wo.heap.size (wo.heap.size + 2) n2 h r k i wo.heap.size Ar h1 cr Rr (wo.heap.size + 1) h1 _ HMh.out hrm hh15 hk hcW.1 (HRw.out.below (HB.out.trans (hbW.mono hsz))) HH1.out hcW.2 hoW (by rw [List.length_map, hL_len, HH1.out]) (by have := HH1.out; omega) hrow (by omega)
        rw [hV_step HMh.out hrm hk hi hrow] at h0
        exact (h0.mono fun e w' h' => ⟨h'.1, h'.2.1, hbW.trans (h'.2.2.1.mono (by omega)), by have := h'.2.2.1.size; omega, (World.cell?_of_block (h'.2.2.2 wo.heap.size (by omega) (by omega))).trans hcW.1, (World.cell?_of_block (h'.2.2.2 (wo.heap.size + 2) (by omega) (by omega))).trans hcW.2⟩ : Calls Try.prog 39 #[.int .i64 (hA n2 r k : Int), .int .i64 (hB n2 r k : Int), .bool (hFst r k), .pointer (some ⟨wo.heap.size, 0, none⟩), .pointer (some ⟨wo.heap.size + 2, 0, none⟩)] W (HomPost wo n2 h r (k + 1) Ar h1 cr)))
      clear hrw hcr hb3 hs3 hc3a hc3b hO3 hw3
      have HA0 := Lib.hid (show hA n2 r 0 = r from rfl)
      have HB0 := Lib.hid (show hB n2 r 0 = n2 from rfl)
      by_cases he : (r : Int) % 2 = 0
      · have HF0 := Lib.hid (show hFst r 0 = true from by unfold hFst; rw [if_pos rfl]; exact decide_eq_true (by omega))
        have he2 : ((r : Int) % 2 == 0) = true := by simp; omega
        have HP0 := Lib.hid (HPc.out w3 0 (Nat.zero_le _) HB3.out (by rw [HS3.out]; exact Nat.le_refl _) HC3.out HO3.out)
        rw [HA0.out, HB0.out, HF0.out] at HP0
        have hN1 := HN1.out
        go_wp2_with fail
        rw [← HW3.out]
        refine (HP0.out).mono ?_
        rintro e w4 ⟨⟨v, rfl⟩, ho4, hb4, hs4, hc4⟩
        have HO4 := Lib.hid ho4
        have HB4 := Lib.hid hb4
        have HS4 := Lib.hid hs4
        have HC4 := Lib.hid hc4
        clear ho4 hb4 hs4 hc4 hcrr he he2
        clear hN1
        have hNd := HNd.out
        go_wp2
        clear hNd
        go_loopw [12] (fun v wr => ∃ (k : Nat), 1 ≤ k ∧ k ≤ h1 ∧ v = .int .i64 k ∧ Hid (OwnI wr wo.heap.size (some ⟨wo.heap.size + 1, 0, none⟩) h1 ((hL n2 r h).map (hV n2 r h k))) ∧ Hid (Below wo.heap.size wo wr) ∧ Hid (wo.heap.size + 3 ≤ wr.heap.size) ∧ Hid (wr.cell? ⟨wo.heap.size, 0, none⟩ = some (.slice Ar h1 cr) ∧ wr.cell? ⟨wo.heap.size + 2, 0, none⟩ = some (.slice (some ⟨wo.heap.size + 1, 0, none⟩) h1 h1))) (fun v _ => h1 - (intOf v).toNat)
        case atStart => exact ⟨1, Nat.le_refl _, by omega, rfl, HO4, HB4, HS4, HC4⟩
        case round =>
          obtain ⟨k, hk1, hk, rfl, HO5, HB5, HS5, HC5⟩ := hrel
          have hNd := HNd.out
          by_cases hkh : k < h1
          · obtain ⟨s, hs⟩ : ∃ s, s = r + k := ⟨_, rfl⟩
            obtain ⟨d, hdd⟩ : ∃ d, d = r + n2 - k := ⟨_, rfl⟩
            obtain ⟨d1, hd1⟩ : ∃ d1, d1 = d + 1 := ⟨_, rfl⟩
            obtain ⟨z, hz⟩ : ∃ z : Int, z = (r : Int) - (k : Int) := ⟨_, rfl⟩
            obtain ⟨u, hu⟩ : ∃ u, u = hA n2 r k := ⟨_, rfl⟩
            obtain ⟨v, hv⟩ : ∃ v, v = hB n2 r k := ⟨_, rfl⟩
            have hu2 : u = s % n2 := by rw [hu, hs]; unfold hA; rw [if_neg (by omega)]
            have hv2 : v = d % n2 := by rw [hv, hdd]; unfold hB; rw [if_neg (by omega)]
            have hA1 : IntKind.i64.wrap ((r : Int) + (k : Int)) = (s : Int) := by rw [show (r : Int) + (k : Int) = (s : Int) by omega]; exact IntWalk.i64_in _ (by omega)
            have hA2 : Int.tmod (s : Int) (n2 : Int) = (u : Int) := by rw [tmod_nat, hu2]
            have hB1 : IntKind.i64.wrap ((r : Int) - (k : Int)) = z := by rw [← hz]; exact IntWalk.i64_in _ (by omega)
            have hNN := HNm.out
            have hB5 : IntKind.i64.wrap (z + (N : Int)) = (d1 : Int) := by rw [show z + (N : Int) = (d1 : Int) by omega]; exact IntWalk.i64_in _ (by omega)
            have hB6 : IntKind.i64.wrap ((d1 : Int) - 1) = (d : Int) := by rw [show (d1 : Int) - 1 = (d : Int) by omega]; exact IntWalk.i64_in _ (by omega)
            have hB3 : Int.tmod (d : Int) (n2 : Int) = (v : Int) := by rw [tmod_nat, hv2]
            have hmne : (n2 : Int) ≠ 0 := by omega
            have hm0 : ¬ n2 = 0 := by omega
            have hmne2 : ((n2 : Int) == 0) = false := by simp; omega
            have hPk := HPc.out
            have HPk := Lib.hid (HPc.out wr.drew k (by omega) HB5.out.drew HS5.out HC5.out HO5.out.drew)
            rw [← hu, ← hv] at HPk
            have hT : Int.tmod (k : Int) 2 = (k : Int) % 2 := Int.tmod_eq_emod_of_nonneg (by omega)
            have hFk : hFst r k = ((k : Int) % 2 == 1) := by
              unfold hFst; rw [if_neg (by omega)]
              by_cases e : k % 2 = 1
              · rw [decide_eq_true e]; symm; simp; omega
              · rw [decide_eq_false e]; symm; simp; omega
            rw [hFk] at HPk
            obtain ⟨tb, htb⟩ : ∃ tb : Bool, tb = ((k : Int) % 2 == 1) := ⟨_, rfl⟩
            have hTb : (Int.tmod (k : Int) 2 == 1) = tb := by rw [hT]; exact htb.symm
            rw [← htb] at HPk
            clear hs hdd hd1 hz hu hv hu2 hv2 hNN hPk hT hFk htb
            go_wp2
            clear hNd
            refine wp_region_noPanic ?_
            refine wp_region_held_drew (S := (fun _ => True)) (by kernel_rfl) trivial (fun hHeld => ?_)
            refine wpAnyH_take (i := 0) (v := ?_) rfl (by kernel_rfl) (by kernel_rfl) (by kernel_rfl) (fun _ _ _ h => h) (Or.inl ⟨by rfl, ?_⟩) hHeld ?_
            rotate_left
            · (intro w hSw; (try dsimp only at hSw); (go_simp <;> with_reducible rfl))
            try simp only [Act.put, List.getElem_toArray, List.getElem_cons_succ, List.getElem_cons_zero, List.setIfInBounds_toArray, List.set_cons_zero, List.set_cons_succ]
            refine wpAnyH_take (i := 1) (v := ?_) rfl (by kernel_rfl) (by kernel_rfl) (by kernel_rfl) (fun _ _ _ h => h) (Or.inl ⟨by rfl, ?_⟩) hHeld ?_
            rotate_left
            · (intro w hSw; (try dsimp only at hSw); (go_simp <;> with_reducible rfl))
            try simp only [Act.put, List.getElem_toArray, List.getElem_cons_succ, List.getElem_cons_zero, List.setIfInBounds_toArray, List.set_cons_zero, List.set_cons_succ]
            refine wpAnyH_take (i := 2) (v := ?_) rfl (by kernel_rfl) (by kernel_rfl) (by kernel_rfl) (fun _ _ _ h => h) (Or.inl ⟨by rfl, ?_⟩) hHeld ?_
            rotate_left
            · (intro w hSw; (try dsimp only at hSw); (go_simp <;> with_reducible rfl))
            try simp only [Act.put, List.getElem_toArray, List.getElem_cons_succ, List.getElem_cons_zero, List.setIfInBounds_toArray, List.set_cons_zero, List.set_cons_succ]
            refine wpAnyH_take (i := 3) (v := ?_) rfl (by kernel_rfl) (by kernel_rfl) (by kernel_rfl) (fun _ _ _ h => h) (Or.inl ⟨by rfl, ?_⟩) hHeld ?_
            rotate_left
            · (intro w hSw; (try dsimp only at hSw); (go_simp <;> with_reducible rfl))
            try simp only [Act.put, List.getElem_toArray, List.getElem_cons_succ, List.getElem_cons_zero, List.setIfInBounds_toArray, List.set_cons_zero, List.set_cons_succ]
            refine wpAnyH_take (i := 4) (v := ?_) rfl (by kernel_rfl) (by kernel_rfl) (by kernel_rfl) (fun _ _ _ h => h) (Or.inl ⟨by rfl, ?_⟩) hHeld ?_
            rotate_left
            · (intro w hSw; (try dsimp only at hSw); (go_simp <;> with_reducible rfl))
            try simp only [Act.put, List.getElem_toArray, List.getElem_cons_succ, List.getElem_cons_zero, List.setIfInBounds_toArray, List.set_cons_zero, List.set_cons_succ]
            refine wpAnyH_take (i := 5) (v := ?_) rfl (by kernel_rfl) (by kernel_rfl) (by kernel_rfl) (fun _ _ _ h => h) (Or.inl ⟨by rfl, ?_⟩) hHeld ?_
            rotate_left
            · (intro w hSw; (try dsimp only at hSw); (go_simp <;> with_reducible rfl))
            try simp only [Act.put, List.getElem_toArray, List.getElem_cons_succ, List.getElem_cons_zero, List.setIfInBounds_toArray, List.set_cons_zero, List.set_cons_succ]
            refine wpAnyH_take (i := 6) (v := ?_) rfl (by kernel_rfl) (by kernel_rfl) (by kernel_rfl) (fun _ _ _ h => h) (Or.inl ⟨by rfl, ?_⟩) hHeld ?_
            rotate_left
            · (intro w hSw; (try dsimp only at hSw); (go_simp <;> with_reducible rfl))
            try simp only [Act.put, List.getElem_toArray, List.getElem_cons_succ, List.getElem_cons_zero, List.setIfInBounds_toArray, List.set_cons_zero, List.set_cons_succ]
            refine wpAnyH_take (i := 7) (v := ?_) rfl (by kernel_rfl) (by kernel_rfl) (by kernel_rfl) (fun _ _ _ h => h) (Or.inl ⟨by rfl, ?_⟩) hHeld ?_
            rotate_left
            · (intro w hSw; (try dsimp only at hSw); (go_simp <;> with_reducible rfl))
            try simp only [Act.put, List.getElem_toArray, List.getElem_cons_succ, List.getElem_cons_zero, List.setIfInBounds_toArray, List.set_cons_zero, List.set_cons_succ]
            refine wpAnyH_take (i := 8) (v := ?_) rfl (by kernel_rfl) (by kernel_rfl) (by kernel_rfl) (fun _ _ _ h => h) (Or.inl ⟨by rfl, ?_⟩) hHeld ?_
            rotate_left
            · (intro w hSw; (try dsimp only at hSw); (go_simp <;> with_reducible rfl))
            try simp only [Act.put, List.getElem_toArray, List.getElem_cons_succ, List.getElem_cons_zero, List.setIfInBounds_toArray, List.set_cons_zero, List.set_cons_succ]
            refine wpAnyH_take (i := 9) (v := ?_) rfl (by kernel_rfl) (by kernel_rfl) (by kernel_rfl) (fun _ _ _ h => h) (Or.inl ⟨by rfl, ?_⟩) hHeld ?_
            rotate_left
            · (intro w hSw; (try dsimp only at hSw); (go_simp <;> with_reducible rfl))
            try simp only [Act.put, List.getElem_toArray, List.getElem_cons_succ, List.getElem_cons_zero, List.setIfInBounds_toArray, List.set_cons_zero, List.set_cons_succ]
            refine wpAnyH_take (i := 10) (v := ?_) rfl (by kernel_rfl) (by kernel_rfl) (by kernel_rfl) (fun _ _ _ h => h) (Or.inl ⟨by rfl, ?_⟩) hHeld ?_
            rotate_left
            · (intro w hSw; (try dsimp only at hSw); (go_simp <;> with_reducible rfl))
            try simp only [Act.put, List.getElem_toArray, List.getElem_cons_succ, List.getElem_cons_zero, List.setIfInBounds_toArray, List.set_cons_zero, List.set_cons_succ]
            refine wpAnyH_take (i := 11) (v := ?_) rfl (by kernel_rfl) (by kernel_rfl) (by kernel_rfl) (fun _ _ _ h => h) (Or.inl ⟨by rfl, ?_⟩) hHeld ?_
            rotate_left
            · (intro w hSw; (try dsimp only at hSw); (go_simp <;> with_reducible rfl))
            try simp only [Act.put, List.getElem_toArray, List.getElem_cons_succ, List.getElem_cons_zero, List.setIfInBounds_toArray, List.set_cons_zero, List.set_cons_succ]
            refine wpAnyH_take (i := 12) (v := ?_) rfl (by kernel_rfl) (by kernel_rfl) (by kernel_rfl) (fun _ _ _ h => h) (Or.inl ⟨by rfl, ?_⟩) hHeld ?_
            rotate_left
            · (intro w hSw; (try dsimp only at hSw); (go_simp <;> with_reducible rfl))
            try simp only [Act.put, List.getElem_toArray, List.getElem_cons_succ, List.getElem_cons_zero, List.setIfInBounds_toArray, List.set_cons_zero, List.set_cons_succ]
            refine wpAnyH_take (i := 13) (v := ?_) rfl (by kernel_rfl) (by kernel_rfl) (by kernel_rfl) (fun _ _ _ h => h) (Or.inl ⟨by rfl, ?_⟩) hHeld ?_
            rotate_left
            · (intro w hSw; (try dsimp only at hSw); (go_simp <;> with_reducible rfl))
            try simp only [Act.put, List.getElem_toArray, List.getElem_cons_succ, List.getElem_cons_zero, List.setIfInBounds_toArray, List.set_cons_zero, List.set_cons_succ]
            refine wpAnyH_take (i := 14) (v := ?_) rfl (by kernel_rfl) (by kernel_rfl) (by kernel_rfl) (fun _ _ _ h => h) (Or.inl ⟨by rfl, ?_⟩) hHeld ?_
            rotate_left
            · (intro w hSw; (try dsimp only at hSw); (go_simp <;> with_reducible rfl))
            try simp only [Act.put, List.getElem_toArray, List.getElem_cons_succ, List.getElem_cons_zero, List.setIfInBounds_toArray, List.set_cons_zero, List.set_cons_succ]
            refine wpAnyH_take (i := 15) (v := ?_) rfl (by kernel_rfl) (by kernel_rfl) (by kernel_rfl) (fun _ _ _ h => h) (Or.inl ⟨by rfl, ?_⟩) hHeld ?_
            rotate_left
            · (intro w hSw; (try dsimp only at hSw); (go_simp <;> with_reducible rfl))
            try simp only [Act.put, List.getElem_toArray, List.getElem_cons_succ, List.getElem_cons_zero, List.setIfInBounds_toArray, List.set_cons_zero, List.set_cons_succ]
            refine wpAnyH_take (i := 16) (v := ?_) rfl (by kernel_rfl) (by kernel_rfl) (by kernel_rfl) (fun _ _ _ h => h) (Or.inl ⟨by rfl, ?_⟩) hHeld ?_
            rotate_left
            · (intro w hSw; (try dsimp only at hSw); (go_simp <;> with_reducible rfl))
            try simp only [Act.put, List.getElem_toArray, List.getElem_cons_succ, List.getElem_cons_zero, List.setIfInBounds_toArray, List.set_cons_zero, List.set_cons_succ]
            refine wpAnyH_take (i := 17) (v := ?_) rfl (by kernel_rfl) (by kernel_rfl) (by kernel_rfl) (fun _ _ _ h => h) (Or.inl ⟨by rfl, ?_⟩) hHeld ?_
            rotate_left
            · (intro w hSw; (try dsimp only at hSw); (go_simp <;> with_reducible rfl))
            try simp only [Act.put, List.getElem_toArray, List.getElem_cons_succ, List.getElem_cons_zero, List.setIfInBounds_toArray, List.set_cons_zero, List.set_cons_succ]
            refine wpAnyH_take (i := 18) (v := ?_) rfl (by kernel_rfl) (by kernel_rfl) (by kernel_rfl) (fun _ _ _ h => h) (Or.inl ⟨by rfl, ?_⟩) hHeld ?_
            rotate_left
            · (intro w hSw; (try dsimp only at hSw); (go_simp <;> with_reducible rfl))
            try simp only [Act.put, List.getElem_toArray, List.getElem_cons_succ, List.getElem_cons_zero, List.setIfInBounds_toArray, List.set_cons_zero, List.set_cons_succ]
            refine wpAnyH_ready (rs := [19]) (by kernel_rfl) (by simp) ?_
            refine AllReadyH.cons rfl (fun K hK => ?_) ?_
            · go_simp
              refine (HPk.out).mono ?_
              rintro e w7 ⟨⟨vv, rfl⟩, ho7, hb7, hs7, hc7⟩
              have HO7 := Lib.hid ho7
              have HB7 := Lib.hid hb7
              have HS7 := Lib.hid hs7
              have HC7 := Lib.hid hc7
              clear ho7 hb7 hs7 hc7
              try go_wp2_with fail
              refine hK.out _ _ trivial (fun hHeld => ?_)
              clear hK K
              try simp only [Act.put, List.getElem_toArray, List.getElem_cons_succ, List.getElem_cons_zero, List.setIfInBounds_toArray, List.set_cons_zero, List.set_cons_succ]
              refine wpAnyH_done (by kernel_rfl) ?_ _
              refine NoPanic.normal ?_
              clear hA1 hA2 hB1 hB5 hB6 hB3 hTb
              go_wp2
              go_roundw
              case rel => exact ⟨k + 1, by omega, by omega, by go_num, HO7, HB7, HS7, HC7⟩
              case measure => simp [intOf]; omega
            exact AllReadyH.nil
          · obtain rfl : h1 = k := by omega
            have HOf := Lib.hid (show OwnI wr wo.heap.size (some ⟨wo.heap.size + 1, 0, none⟩) h1 (hoR n2 h r) from by have := HO5.out; rw [HH1.out, hV_all, ← HH1.out] at this; exact this)
            have hc9 := HC5.out.2
            have hs9 := HS5.out
            have hsz9 := HB5.out.size
            have HBx := Lib.hid (HB.out.trans (HB5.out.mono hsz))
            have HLr := Lib.hid (show (hoR n2 h r).length = h1 from by rw [hoR_len, HH1.out])
            have HOx := Lib.hid ((HO.out.below HB5.out).alloc (.cells #[.slice (some ⟨wo.heap.size + 1, 0, none⟩) h1 h1] 52))
            have HIx := Lib.hid ((HOf.out.lower (lo' := w2.heap.size) (by omega)).alloc (.cells #[.slice (some ⟨wo.heap.size + 1, 0, none⟩) h1 h1] 52))
            have HAp := Lib.hid (later_apart HO.out HOf.out)
            have HLt := Lib.hid (hoTo_len n2 h r)
            go_wp2_with (at_builtin; refine wpM_append rfl _ _ rfl w2.heap.size _ _ _ R' (hoTo n2 h r) (some ⟨wo.heap.size + 1, 0, none⟩) h1 h1 (hoR n2 h r) wr.heap.size rfl rfl HLt.out HLr.out HOx.out HIx.out HAp.out (World.cell?_alloc_at _ _ _ _ rfl) (by omega) (by simp; omega) ?_; intro A9 c9 R9 w9 ho9 hg9 ha9)
            have HB9 := Lib.hid ((HBx.out.alloc HBx.out.size (.cells #[.slice (some ⟨wo.heap.size + 1, 0, none⟩) h1 h1] 52)).trans (below_blkM HOx.out hg9 (Nat.le_refl _) (by simp; omega)))
            have HO9 := Lib.hid (show OwnM w9 w2.heap.size A9 c9 R9 (hoTo n2 h (r + 1)) from by rw [hoTo_succ]; exact ho9)
            clear ho9 hg9 ha9 hc9 hNd
            go_wp2
            go_roundw
            case rel => exact ⟨r + 1, _, _, _, by omega, by go_num, rfl, HO9, HB9⟩
            case measure => simp [intOf]; omega
      · have HF0 := Lib.hid (show hFst r 0 = false from by unfold hFst; rw [if_pos rfl]; exact decide_eq_false (by omega))
        have he2 : ((r : Int) % 2 == 0) = false := by simp; omega
        have HP0 := Lib.hid (HPc.out w3 0 (Nat.zero_le _) HB3.out (by rw [HS3.out]; exact Nat.le_refl _) HC3.out HO3.out)
        rw [HA0.out, HB0.out, HF0.out] at HP0
        have hN1 := HN1.out
        go_wp2_with fail
        rw [← HW3.out]
        refine (HP0.out).mono ?_
        rintro e w4 ⟨⟨v, rfl⟩, ho4, hb4, hs4, hc4⟩
        have HO4 := Lib.hid ho4
        have HB4 := Lib.hid hb4
        have HS4 := Lib.hid hs4
        have HC4 := Lib.hid hc4
        clear ho4 hb4 hs4 hc4 hcrr he he2
        clear hN1
        have hNd := HNd.out
        go_wp2
        clear hNd
        go_loopw [12] (fun v wr => ∃ (k : Nat), 1 ≤ k ∧ k ≤ h1 ∧ v = .int .i64 k ∧ Hid (OwnI wr wo.heap.size (some ⟨wo.heap.size + 1, 0, none⟩) h1 ((hL n2 r h).map (hV n2 r h k))) ∧ Hid (Below wo.heap.size wo wr) ∧ Hid (wo.heap.size + 3 ≤ wr.heap.size) ∧ Hid (wr.cell? ⟨wo.heap.size, 0, none⟩ = some (.slice Ar h1 cr) ∧ wr.cell? ⟨wo.heap.size + 2, 0, none⟩ = some (.slice (some ⟨wo.heap.size + 1, 0, none⟩) h1 h1))) (fun v _ => h1 - (intOf v).toNat)
        case atStart => exact ⟨1, Nat.le_refl _, by omega, rfl, HO4, HB4, HS4, HC4⟩
        case round =>
          obtain ⟨k, hk1, hk, rfl, HO5, HB5, HS5, HC5⟩ := hrel
          have hNd := HNd.out
          by_cases hkh : k < h1
          · obtain ⟨s, hs⟩ : ∃ s, s = r + k := ⟨_, rfl⟩
            obtain ⟨d, hdd⟩ : ∃ d, d = r + n2 - k := ⟨_, rfl⟩
            obtain ⟨d1, hd1⟩ : ∃ d1, d1 = d + 1 := ⟨_, rfl⟩
            obtain ⟨z, hz⟩ : ∃ z : Int, z = (r : Int) - (k : Int) := ⟨_, rfl⟩
            obtain ⟨u, hu⟩ : ∃ u, u = hA n2 r k := ⟨_, rfl⟩
            obtain ⟨v, hv⟩ : ∃ v, v = hB n2 r k := ⟨_, rfl⟩
            have hu2 : u = s % n2 := by rw [hu, hs]; unfold hA; rw [if_neg (by omega)]
            have hv2 : v = d % n2 := by rw [hv, hdd]; unfold hB; rw [if_neg (by omega)]
            have hA1 : IntKind.i64.wrap ((r : Int) + (k : Int)) = (s : Int) := by rw [show (r : Int) + (k : Int) = (s : Int) by omega]; exact IntWalk.i64_in _ (by omega)
            have hA2 : Int.tmod (s : Int) (n2 : Int) = (u : Int) := by rw [tmod_nat, hu2]
            have hB1 : IntKind.i64.wrap ((r : Int) - (k : Int)) = z := by rw [← hz]; exact IntWalk.i64_in _ (by omega)
            have hNN := HNm.out
            have hB5 : IntKind.i64.wrap (z + (N : Int)) = (d1 : Int) := by rw [show z + (N : Int) = (d1 : Int) by omega]; exact IntWalk.i64_in _ (by omega)
            have hB6 : IntKind.i64.wrap ((d1 : Int) - 1) = (d : Int) := by rw [show (d1 : Int) - 1 = (d : Int) by omega]; exact IntWalk.i64_in _ (by omega)
            have hB3 : Int.tmod (d : Int) (n2 : Int) = (v : Int) := by rw [tmod_nat, hv2]
            have hmne : (n2 : Int) ≠ 0 := by omega
            have hm0 : ¬ n2 = 0 := by omega
            have hmne2 : ((n2 : Int) == 0) = false := by simp; omega
            have hPk := HPc.out
            have HPk := Lib.hid (HPc.out wr.drew k (by omega) HB5.out.drew HS5.out HC5.out HO5.out.drew)
            rw [← hu, ← hv] at HPk
            have hT : Int.tmod (k : Int) 2 = (k : Int) % 2 := Int.tmod_eq_emod_of_nonneg (by omega)
            have hFk : hFst r k = ((k : Int) % 2 == 1) := by
              unfold hFst; rw [if_neg (by omega)]
              by_cases e : k % 2 = 1
              · rw [decide_eq_true e]; symm; simp; omega
              · rw [decide_eq_false e]; symm; simp; omega
            rw [hFk] at HPk
            obtain ⟨tb, htb⟩ : ∃ tb : Bool, tb = ((k : Int) % 2 == 1) := ⟨_, rfl⟩
            have hTb : (Int.tmod (k : Int) 2 == 1) = tb := by rw [hT]; exact htb.symm
            rw [← htb] at HPk
            clear hs hdd hd1 hz hu hv hu2 hv2 hNN hPk hT hFk htb
            go_wp2
            clear hNd
            refine wp_region_noPanic ?_
            refine wp_region_held_drew (S := (fun _ => True)) (by kernel_rfl) trivial (fun hHeld => ?_)
            refine wpAnyH_take (i := 0) (v := ?_) rfl (by kernel_rfl) (by kernel_rfl) (by kernel_rfl) (fun _ _ _ h => h) (Or.inl ⟨by rfl, ?_⟩) hHeld ?_
            rotate_left
            · (intro w hSw; (try dsimp only at hSw); (go_simp <;> with_reducible rfl))
            try simp only [Act.put, List.getElem_toArray, List.getElem_cons_succ, List.getElem_cons_zero, List.setIfInBounds_toArray, List.set_cons_zero, List.set_cons_succ]
            refine wpAnyH_take (i := 1) (v := ?_) rfl (by kernel_rfl) (by kernel_rfl) (by kernel_rfl) (fun _ _ _ h => h) (Or.inl ⟨by rfl, ?_⟩) hHeld ?_
            rotate_left
            · (intro w hSw; (try dsimp only at hSw); (go_simp <;> with_reducible rfl))
            try simp only [Act.put, List.getElem_toArray, List.getElem_cons_succ, List.getElem_cons_zero, List.setIfInBounds_toArray, List.set_cons_zero, List.set_cons_succ]
            refine wpAnyH_take (i := 2) (v := ?_) rfl (by kernel_rfl) (by kernel_rfl) (by kernel_rfl) (fun _ _ _ h => h) (Or.inl ⟨by rfl, ?_⟩) hHeld ?_
            rotate_left
            · (intro w hSw; (try dsimp only at hSw); (go_simp <;> with_reducible rfl))
            try simp only [Act.put, List.getElem_toArray, List.getElem_cons_succ, List.getElem_cons_zero, List.setIfInBounds_toArray, List.set_cons_zero, List.set_cons_succ]
            refine wpAnyH_take (i := 3) (v := ?_) rfl (by kernel_rfl) (by kernel_rfl) (by kernel_rfl) (fun _ _ _ h => h) (Or.inl ⟨by rfl, ?_⟩) hHeld ?_
            rotate_left
            · (intro w hSw; (try dsimp only at hSw); (go_simp <;> with_reducible rfl))
            try simp only [Act.put, List.getElem_toArray, List.getElem_cons_succ, List.getElem_cons_zero, List.setIfInBounds_toArray, List.set_cons_zero, List.set_cons_succ]
            refine wpAnyH_take (i := 4) (v := ?_) rfl (by kernel_rfl) (by kernel_rfl) (by kernel_rfl) (fun _ _ _ h => h) (Or.inl ⟨by rfl, ?_⟩) hHeld ?_
            rotate_left
            · (intro w hSw; (try dsimp only at hSw); (go_simp <;> with_reducible rfl))
            try simp only [Act.put, List.getElem_toArray, List.getElem_cons_succ, List.getElem_cons_zero, List.setIfInBounds_toArray, List.set_cons_zero, List.set_cons_succ]
            refine wpAnyH_take (i := 5) (v := ?_) rfl (by kernel_rfl) (by kernel_rfl) (by kernel_rfl) (fun _ _ _ h => h) (Or.inl ⟨by rfl, ?_⟩) hHeld ?_
            rotate_left
            · (intro w hSw; (try dsimp only at hSw); (go_simp <;> with_reducible rfl))
            try simp only [Act.put, List.getElem_toArray, List.getElem_cons_succ, List.getElem_cons_zero, List.setIfInBounds_toArray, List.set_cons_zero, List.set_cons_succ]
            refine wpAnyH_take (i := 6) (v := ?_) rfl (by kernel_rfl) (by kernel_rfl) (by kernel_rfl) (fun _ _ _ h => h) (Or.inl ⟨by rfl, ?_⟩) hHeld ?_
            rotate_left
            · (intro w hSw; (try dsimp only at hSw); (go_simp <;> with_reducible rfl))
            try simp only [Act.put, List.getElem_toArray, List.getElem_cons_succ, List.getElem_cons_zero, List.setIfInBounds_toArray, List.set_cons_zero, List.set_cons_succ]
            refine wpAnyH_take (i := 7) (v := ?_) rfl (by kernel_rfl) (by kernel_rfl) (by kernel_rfl) (fun _ _ _ h => h) (Or.inl ⟨by rfl, ?_⟩) hHeld ?_
            rotate_left
            · (intro w hSw; (try dsimp only at hSw); (go_simp <;> with_reducible rfl))
            try simp only [Act.put, List.getElem_toArray, List.getElem_cons_succ, List.getElem_cons_zero, List.setIfInBounds_toArray, List.set_cons_zero, List.set_cons_succ]
            refine wpAnyH_take (i := 8) (v := ?_) rfl (by kernel_rfl) (by kernel_rfl) (by kernel_rfl) (fun _ _ _ h => h) (Or.inl ⟨by rfl, ?_⟩) hHeld ?_
            rotate_left
            · (intro w hSw; (try dsimp only at hSw); (go_simp <;> with_reducible rfl))
            try simp only [Act.put, List.getElem_toArray, List.getElem_cons_succ, List.getElem_cons_zero, List.setIfInBounds_toArray, List.set_cons_zero, List.set_cons_succ]
            refine wpAnyH_take (i := 9) (v := ?_) rfl (by kernel_rfl) (by kernel_rfl) (by kernel_rfl) (fun _ _ _ h => h) (Or.inl ⟨by rfl, ?_⟩) hHeld ?_
            rotate_left
            · (intro w hSw; (try dsimp only at hSw); (go_simp <;> with_reducible rfl))
            try simp only [Act.put, List.getElem_toArray, List.getElem_cons_succ, List.getElem_cons_zero, List.setIfInBounds_toArray, List.set_cons_zero, List.set_cons_succ]
            refine wpAnyH_take (i := 10) (v := ?_) rfl (by kernel_rfl) (by kernel_rfl) (by kernel_rfl) (fun _ _ _ h => h) (Or.inl ⟨by rfl, ?_⟩) hHeld ?_
            rotate_left
            · (intro w hSw; (try dsimp only at hSw); (go_simp <;> with_reducible rfl))
            try simp only [Act.put, List.getElem_toArray, List.getElem_cons_succ, List.getElem_cons_zero, List.setIfInBounds_toArray, List.set_cons_zero, List.set_cons_succ]
            refine wpAnyH_take (i := 11) (v := ?_) rfl (by kernel_rfl) (by kernel_rfl) (by kernel_rfl) (fun _ _ _ h => h) (Or.inl ⟨by rfl, ?_⟩) hHeld ?_
            rotate_left
            · (intro w hSw; (try dsimp only at hSw); (go_simp <;> with_reducible rfl))
            try simp only [Act.put, List.getElem_toArray, List.getElem_cons_succ, List.getElem_cons_zero, List.setIfInBounds_toArray, List.set_cons_zero, List.set_cons_succ]
            refine wpAnyH_take (i := 12) (v := ?_) rfl (by kernel_rfl) (by kernel_rfl) (by kernel_rfl) (fun _ _ _ h => h) (Or.inl ⟨by rfl, ?_⟩) hHeld ?_
            rotate_left
            · (intro w hSw; (try dsimp only at hSw); (go_simp <;> with_reducible rfl))
            try simp only [Act.put, List.getElem_toArray, List.getElem_cons_succ, List.getElem_cons_zero, List.setIfInBounds_toArray, List.set_cons_zero, List.set_cons_succ]
            refine wpAnyH_take (i := 13) (v := ?_) rfl (by kernel_rfl) (by kernel_rfl) (by kernel_rfl) (fun _ _ _ h => h) (Or.inl ⟨by rfl, ?_⟩) hHeld ?_
            rotate_left
            · (intro w hSw; (try dsimp only at hSw); (go_simp <;> with_reducible rfl))
            try simp only [Act.put, List.getElem_toArray, List.getElem_cons_succ, List.getElem_cons_zero, List.setIfInBounds_toArray, List.set_cons_zero, List.set_cons_succ]
            refine wpAnyH_take (i := 14) (v := ?_) rfl (by kernel_rfl) (by kernel_rfl) (by kernel_rfl) (fun _ _ _ h => h) (Or.inl ⟨by rfl, ?_⟩) hHeld ?_
            rotate_left
            · (intro w hSw; (try dsimp only at hSw); (go_simp <;> with_reducible rfl))
            try simp only [Act.put, List.getElem_toArray, List.getElem_cons_succ, List.getElem_cons_zero, List.setIfInBounds_toArray, List.set_cons_zero, List.set_cons_succ]
            refine wpAnyH_take (i := 15) (v := ?_) rfl (by kernel_rfl) (by kernel_rfl) (by kernel_rfl) (fun _ _ _ h => h) (Or.inl ⟨by rfl, ?_⟩) hHeld ?_
            rotate_left
            · (intro w hSw; (try dsimp only at hSw); (go_simp <;> with_reducible rfl))
            try simp only [Act.put, List.getElem_toArray, List.getElem_cons_succ, List.getElem_cons_zero, List.setIfInBounds_toArray, List.set_cons_zero, List.set_cons_succ]
            refine wpAnyH_take (i := 16) (v := ?_) rfl (by kernel_rfl) (by kernel_rfl) (by kernel_rfl) (fun _ _ _ h => h) (Or.inl ⟨by rfl, ?_⟩) hHeld ?_
            rotate_left
            · (intro w hSw; (try dsimp only at hSw); (go_simp <;> with_reducible rfl))
            try simp only [Act.put, List.getElem_toArray, List.getElem_cons_succ, List.getElem_cons_zero, List.setIfInBounds_toArray, List.set_cons_zero, List.set_cons_succ]
            refine wpAnyH_take (i := 17) (v := ?_) rfl (by kernel_rfl) (by kernel_rfl) (by kernel_rfl) (fun _ _ _ h => h) (Or.inl ⟨by rfl, ?_⟩) hHeld ?_
            rotate_left
            · (intro w hSw; (try dsimp only at hSw); (go_simp <;> with_reducible rfl))
            try simp only [Act.put, List.getElem_toArray, List.getElem_cons_succ, List.getElem_cons_zero, List.setIfInBounds_toArray, List.set_cons_zero, List.set_cons_succ]
            refine wpAnyH_take (i := 18) (v := ?_) rfl (by kernel_rfl) (by kernel_rfl) (by kernel_rfl) (fun _ _ _ h => h) (Or.inl ⟨by rfl, ?_⟩) hHeld ?_
            rotate_left
            · (intro w hSw; (try dsimp only at hSw); (go_simp <;> with_reducible rfl))
            try simp only [Act.put, List.getElem_toArray, List.getElem_cons_succ, List.getElem_cons_zero, List.setIfInBounds_toArray, List.set_cons_zero, List.set_cons_succ]
            refine wpAnyH_ready (rs := [19]) (by kernel_rfl) (by simp) ?_
            refine AllReadyH.cons rfl (fun K hK => ?_) ?_
            · go_simp
              refine (HPk.out).mono ?_
              rintro e w7 ⟨⟨vv, rfl⟩, ho7, hb7, hs7, hc7⟩
              have HO7 := Lib.hid ho7
              have HB7 := Lib.hid hb7
              have HS7 := Lib.hid hs7
              have HC7 := Lib.hid hc7
              clear ho7 hb7 hs7 hc7
              try go_wp2_with fail
              refine hK.out _ _ trivial (fun hHeld => ?_)
              clear hK K
              try simp only [Act.put, List.getElem_toArray, List.getElem_cons_succ, List.getElem_cons_zero, List.setIfInBounds_toArray, List.set_cons_zero, List.set_cons_succ]
              refine wpAnyH_done (by kernel_rfl) ?_ _
              refine NoPanic.normal ?_
              clear hA1 hA2 hB1 hB5 hB6 hB3 hTb
              go_wp2
              go_roundw
              case rel => exact ⟨k + 1, by omega, by omega, by go_num, HO7, HB7, HS7, HC7⟩
              case measure => simp [intOf]; omega
            exact AllReadyH.nil
          · obtain rfl : h1 = k := by omega
            have HOf := Lib.hid (show OwnI wr wo.heap.size (some ⟨wo.heap.size + 1, 0, none⟩) h1 (hoR n2 h r) from by have := HO5.out; rw [HH1.out, hV_all, ← HH1.out] at this; exact this)
            have hc9 := HC5.out.2
            have hs9 := HS5.out
            have hsz9 := HB5.out.size
            have HBx := Lib.hid (HB.out.trans (HB5.out.mono hsz))
            have HLr := Lib.hid (show (hoR n2 h r).length = h1 from by rw [hoR_len, HH1.out])
            have HOx := Lib.hid ((HO.out.below HB5.out).alloc (.cells #[.slice (some ⟨wo.heap.size + 1, 0, none⟩) h1 h1] 52))
            have HIx := Lib.hid ((HOf.out.lower (lo' := w2.heap.size) (by omega)).alloc (.cells #[.slice (some ⟨wo.heap.size + 1, 0, none⟩) h1 h1] 52))
            have HAp := Lib.hid (later_apart HO.out HOf.out)
            have HLt := Lib.hid (hoTo_len n2 h r)
            go_wp2_with (at_builtin; refine wpM_append rfl _ _ rfl w2.heap.size _ _ _ R' (hoTo n2 h r) (some ⟨wo.heap.size + 1, 0, none⟩) h1 h1 (hoR n2 h r) wr.heap.size rfl rfl HLt.out HLr.out HOx.out HIx.out HAp.out (World.cell?_alloc_at _ _ _ _ rfl) (by omega) (by simp; omega) ?_; intro A9 c9 R9 w9 ho9 hg9 ha9)
            have HB9 := Lib.hid ((HBx.out.alloc HBx.out.size (.cells #[.slice (some ⟨wo.heap.size + 1, 0, none⟩) h1 h1] 52)).trans (below_blkM HOx.out hg9 (Nat.le_refl _) (by simp; omega)))
            have HO9 := Lib.hid (show OwnM w9 w2.heap.size A9 c9 R9 (hoTo n2 h (r + 1)) from by rw [hoTo_succ]; exact ho9)
            clear ho9 hg9 ha9 hc9 hNd
            go_wp2
            go_roundw
            case rel => exact ⟨r + 1, _, _, _, by omega, by go_num, rfl, HO9, HB9⟩
            case measure => simp [intOf]; omega
    · obtain rfl : n2 = r := by omega
      have HLn := Lib.hid (hoTo_len n2 h n2)
      have HBf := Lib.hid (HB2.out.trans (HB.out.mono HB2.out.size))
      have HOf := Lib.hid (HO.out.lower (lo' := w.heap.size) HB2.out.size)
      go_wp2
      go_ret2
      exact ⟨⟨A', n2, c', R', rfl, HLn.out, HOf.out⟩, HBf.out⟩
end Go.Proofs.Ytcdbbcnoleilfaa
