/-
  DesignOfHadamard of both sides. Conditions: those of each theorem.
-/
import Derived.Test.YtdneldecedbepaaCompP
import Derived.Test.YtdneldecedbepaaHad5
namespace Go.Proofs.Ytdneldecedbepaa
open Go.RowKit
set_option linter.unusedVariables false
set_option linter.unusedSimpArgs false

def doTo (g : Nat → Nat → Int) (i k : Nat) : List Int := ((List.range k).filter (fun y => decide (g i (y + 1) = 1))).map fun (y : Nat) => (y : Int)
theorem doTo_hit {g : Nat → Nat → Int} {i k : Nat} (h : g i (k + 1) = 1) : doTo g i (k + 1) = doTo g i k ++ [(k : Int)] := by
  unfold doTo
  rw [List.range_succ, List.filter_append, List.map_append]
  simp [List.filter_cons, h]
theorem doTo_miss {g : Nat → Nat → Int} {i k : Nat} (h : g i (k + 1) ≠ 1) : doTo g i (k + 1) = doTo g i k := by
  unfold doTo
  rw [List.range_succ, List.filter_append, List.map_append]
  simp [List.filter_cons, h]
theorem doTo_len (g : Nat → Nat → Int) (i k : Nat) : (doTo g i k).length ≤ k := by
  unfold doTo
  have := List.length_filter_le (fun y => decide (g i (y + 1) = 1)) (List.range k)
  rw [List.length_map]
  rw [List.length_range] at this
  exact this
theorem doTo_rise (g : Nat → Nat → Int) (i k : Nat) : (doTo g i k).Pairwise (· < ·) := by
  unfold doTo
  rw [List.pairwise_map]
  refine List.Pairwise.filter _ ?_
  refine List.Pairwise.imp ?_ List.pairwise_lt_range
  intro a b h
  omega
theorem doTo_mem {g : Nat → Nat → Int} {i k : Nat} {z : Int} (h : z ∈ doTo g i k) : 0 ≤ z ∧ z < (k : Int) := by
  unfold doTo at h
  obtain ⟨y, hy, rfl⟩ := List.mem_map.1 h
  have := List.mem_range.1 (List.mem_filter.1 hy).1
  omega
def doR (g : Nat → Nat → Int) (N k : Nat) : List (List Int) := (List.range k).map fun i => doTo g (i + 1) N
theorem doR_succ (g : Nat → Nat → Int) (N k : Nat) : doR g N (k + 1) = doR g N k ++ [doTo g (k + 1) N] := by simp [doR, List.range_succ]
theorem doR_len (g : Nat → Nat → Int) (N k : Nat) : (doR g N k).length = k := by simp [doR]
theorem doR_row {g : Nat → Nat → Int} {N k i : Nat} (h : i < k) : row (doR g N k) i = doTo g (i + 1) N := by simp [row, doR, h]
theorem PmF.norm {f : Nat → Nat → Int} {n : Nat} (h : PmF f n) (hn : 1 ≤ n) : PmF (normF f) n := fun x y hx hy => by
  unfold normF
  exact pm_prod (pm_prod (pm_prod (h x y hx hy) (h 0 y (by omega) hy)) (h x 0 hx (by omega))) (h 0 0 (by omega) (by omega))
theorem do_pos {h : List (List Int)} (hv : ValidH h) {i : Nat} (h4 : 4 ≤ h.length) (h1 : 1 ≤ i) (hi : i < h.length) : 0 < (doTo (normF (entry h)) i (h.length - 1)).length := by
  obtain ⟨_, hpm, _, _⟩ := hv.sq rfl
  rcases Nat.eq_zero_or_pos (doTo (normF (entry h)) i (h.length - 1)).length with h0 | h0
  · exfalso
    have hno : ∀ y, 1 ≤ y → y < h.length → normF (entry h) i y = -1 := fun y hy1 hy => by
      rcases (hpm.norm (by omega)) i y hi hy with e | e
      · exfalso
        have h2 := List.eq_nil_of_length_eq_zero h0
        have : ((y - 1 : Nat) : Int) ∈ doTo (normF (entry h)) i (h.length - 1) := by
          unfold doTo
          refine List.mem_map.2 ⟨y - 1, List.mem_filter.2 ⟨List.mem_range.2 (by omega), ?_⟩, rfl⟩
          rw [show y - 1 + 1 = y by omega]
          exact decide_eq_true e
        rw [h2] at this
        simp at this
      · exact e
    have h00 := hpm 0 0 (by omega) (by omega)
    have hi0 := hpm i 0 hi (by omega)
    have hd := hv.2.2 i hi 0 (by omega)
    have hE : entry h i 0 * entry h 0 0 = 1 ∨ entry h i 0 * entry h 0 0 = -1 := pm_prod hi0 h00
    have hstep : ∀ y, 1 ≤ y → y < h.length → entry h i y * entry h 0 y = -(entry h i 0 * entry h 0 0) := fun y hy1 hy => by
      have h3 := hno y hy1 hy
      unfold normF at h3
      rw [Int.mul_assoc] at h3
      rcases hE with e | e <;> rw [e] at h3 ⊢ <;> omega
    have hsum : ∀ k, k < h.length → dotTo (row h i) (row h 0) (k + 1) = entry h i 0 * entry h 0 0 - (k : Int) * (entry h i 0 * entry h 0 0) := fun k => by
      induction k with
      | zero => intro _; simp [dotTo, entry]
      | succ k ih =>
        intro hk
        have h5 := ih (by omega)
        have h6 := hstep (k + 1) (by omega) hk
        rw [dotTo, h5]
        have h7 : nth (row h i) (k + 1) * nth (row h 0) (k + 1) = -(entry h i 0 * entry h 0 0) := h6
        rw [h7]
        rcases hE with e | e <;> rw [e] <;> omega
    have h8 := hsum (h.length - 1) (by omega)
    rw [show h.length - 1 + 1 = h.length by omega] at h8
    rw [hd] at h8
    rcases hE with e | e <;> rw [e] at h8 <;> omega
  · exact h0
noncomputable def dhOk (h : List (List Int)) : Int := if validB h = true then (if h.length < 4 then 6 else 0) else 1
noncomputable def dhR (h : List (List Int)) : List (List Int) := doR (normF (entry h)) (h.length - 1) (h.length - 1)
noncomputable def dhP (h : List (List Int)) : Int := if dhOk h = 0 then (h.length : Int) - 1 else 0
noncomputable def dhX (h : List (List Int)) : List (List Int) := if dhOk h = 0 then sortLL (dhR h) else []
theorem dhOk_zero {h : List (List Int)} (h0 : dhOk h = 0) : ValidH h ∧ 4 ≤ h.length := by
  unfold dhOk at h0
  split at h0
  · next h1 =>
    split at h0
    · omega
    · next h2 => exact ⟨validB_iff.1 h1, by omega⟩
  · omega
theorem dhR_len (h : List (List Int)) : (dhR h).length = h.length - 1 := doR_len _ _ _
theorem dhR_blocks {h : List (List Int)} (hv : ValidH h) (h4 : 4 ≤ h.length) {k : Nat} (hk : k < h.length - 1) : blockB (row (dhR h) k) ((h.length : Int) - 1) = true := by
  obtain ⟨_, _, _, h32⟩ := hv.sq rfl
  unfold dhR
  rw [doR_row hk]
  unfold blockB
  rw [Bool.and_eq_true, decide_eq_true_eq]
  refine ⟨do_pos hv h4 (by omega) (by omega), setB_iff.2 ⟨doTo_rise _ _ _, fun z hz => ?_, by omega, by omega⟩⟩
  have := doTo_mem hz
  omega
theorem DesignOfHadamard_small (h : List (List Int)) : (dhX h).length ≤ 1048576 ∧ tot (dhX h) ≤ 1048576 := by
  unfold dhX
  split
  · next h0 =>
    obtain ⟨hv, h4⟩ := dhOk_zero h0
    obtain ⟨_, _, _, h32⟩ := hv.sq rfl
    have hl : (dhR h).length ≤ 128 := by rw [dhR_len]; omega
    have := mk_small (xss := dhR h) fun r hr => by
      unfold dhR doR at hr
      obtain ⟨i, hi, rfl⟩ := List.mem_map.1 hr
      have := doTo_len (normF (entry h)) (i + 1) (h.length - 1)
      omega
    unfold mkL at this
    rwa [if_pos hl] at this
  · simp [tot]

set_option maxRecDepth 100000 in
set_option maxHeartbeats 8000000 in
theorem specDesignOfHadamard_c (w : World) (A : Option Addr) (n c : Nat) (R : Spine) (h : List (List Int)) (hr : RdM w A c R h) (hn : h.length = n) (hw : WfM h) (hz : (n : Int) + (tot h : Nat) ≤ 1048576) :
    Calls Try.prog 33 #[.slice A n c] w (PostDC w (dhP h) (dhX h) (dhOk h)) := by
  clear hw hz
  have hzD := zeroD
  obtain ⟨wa, hwa⟩ : ∃ wa, wa = w.alloc (.cells #[.int .i64 0, .slice none 0 0] 26) := ⟨_, rfl⟩
  have hZa : RBox wa w.heap.size := by rw [hwa]; exact RBox.made w 26
  have hBa : Below w.heap.size w wa := by rw [hwa]; exact below_boxed w (.cells #[.int .i64 0, .slice none 0 0] 26)
  have hsa : w.heap.size + 1 ≤ wa.heap.size := by rw [hwa]; simp
  have HZa := Lib.hid hZa
  have HBa := Lib.hid hBa
  have hO := l15Ok_c wa A n c R h (hr.below hBa) hn
  rw [hwa] at hO
  rcases hv : validB h with _ | _
  · have h1 : dhOk h = 1 := if_neg (by rw [hv]; simp)
    rw [show dhP h = 0 from if_neg (by omega), show dhX h = [] from if_neg (by omega), h1]
    rw [hv] at hO
    have HO := Lib.hid hO
    have HWa := Lib.hid hwa
    clear hO hwa hZa hBa hr hn h1 hv
    go_enter Try.func33, Try.ntmps33
    go_wp2_with fail
    refine (HO.out).mono ?_
    rintro e w2 ⟨rfl, hb2⟩
    rw [← HWa.out] at hb2
    have HZ2 := Lib.hid (HZa.out.step (lo := wa.heap.size) (by omega) hb2)
    have HB2 := Lib.hid (HBa.out.trans (hb2.mono HBa.out.size))
    clear hb2
    have rz := HZ2.out
    have z0 := rz.c0
    have z1 := rz.c1
    have y0 := rz.f0
    have y1 := rz.f1
    clear rz
    go_wp2
    obtain ⟨r0, r1⟩ := HZ2.out.read (.int .i64 0) (.slice none 0 0)
    refine bodyPost_ret (v := .tuple #[.agg #[.int .i64 0, .slice none 0 0], .int .i64 1]) (by simp [results, Try.results33, go_sem, r0, r1]) rfl ⟨⟨none, 0, 0, fun _ => (none, 0), rfl, rfl, OwnM.nil_ _ _ _⟩, by first | exact HB2.out | exact below_set2 HB2.out (by omega)⟩
  rw [hv] at hO
  have HO := Lib.hid hO
  have HWa := Lib.hid hwa
  obtain ⟨hsq, hpm, hn1, hn32⟩ := (validB_iff.1 hv).sq hn
  by_cases h4 : n < 4
  · have h1 : dhOk h = 6 := (if_pos hv).trans (if_pos (by omega))
    rw [show dhP h = 0 from if_neg (by omega), show dhX h = [] from if_neg (by omega), h1]
    have hd4 : decide ((n : Int) < 4) = true := by simp; omega
    have hd5 : (n : Int) < 4 := by omega
    clear hO hwa hZa hBa hr hn h1 hv hsq hpm h4
    go_enter Try.func33, Try.ntmps33
    go_wp2_with fail
    refine (HO.out).mono ?_
    rintro e w2 ⟨rfl, hb2⟩
    rw [← HWa.out] at hb2
    have HZ2 := Lib.hid (HZa.out.step (lo := wa.heap.size) (by omega) hb2)
    have HB2 := Lib.hid (HBa.out.trans (hb2.mono HBa.out.size))
    clear hb2
    have rz := HZ2.out
    have z0 := rz.c0
    have z1 := rz.c1
    have y0 := rz.f0
    have y1 := rz.f1
    clear rz
    go_wp2
    obtain ⟨r0, r1⟩ := HZ2.out.read (.int .i64 0) (.slice none 0 0)
    refine bodyPost_ret (v := .tuple #[.agg #[.int .i64 0, .slice none 0 0], .int .i64 6]) (by simp [results, Try.results33, go_sem, r0, r1]) rfl ⟨⟨none, 0, 0, fun _ => (none, 0), rfl, rfl, OwnM.nil_ _ _ _⟩, by first | exact HB2.out | exact below_set2 HB2.out (by omega)⟩
  have h0 : dhOk h = 0 := (if_pos hv).trans (if_neg (by omega))
  have hd4 : decide ((n : Int) < 4) = false := by simp; omega
  have hvh := validB_iff.1 hv
  have HNo := Lib.hid (fun (W : World) (hb : Below w.heap.size w W) => l15Normal_c W A n c R (entry h) (by rw [← hsq]; exact hr.below hb) hpm hn1 (by omega))
  rw [show dhP h = (n : Int) - 1 from (if_pos h0).trans (by rw [hn]), show dhX h = sortLL (doR (normF (entry h)) (n - 1) (n - 1)) from (if_pos h0).trans (by unfold dhR; rw [hn]), h0]
  have hblk : ∀ q, q < n - 1 → blockB (row (doR (normF (entry h)) (n - 1) (n - 1)) q) ((n : Int) - 1) = true := fun q hq => by
    have := dhR_blocks hvh (by omega) (k := q) (by omega)
    unfold dhR at this
    rwa [hn] at this
  have hlen : ∀ q, q < n - 1 → (row (doR (normF (entry h)) (n - 1) (n - 1)) q).length ≤ 1048576 := fun q hq => by
    rw [doR_row hq]
    have := doTo_len (normF (entry h)) (q + 1) (n - 1)
    omega
  have hpn := hpm.norm hn1
  obtain ⟨g, hg⟩ : ∃ g, g = normF (entry h) := ⟨_, rfl⟩
  rw [← hg] at hblk hlen hpn HNo ⊢
  have HBlk := Lib.hid hblk
  have HLen := Lib.hid hlen
  have HPm := Lib.hid hpn
  clear hO hwa hZa hBa hr hn h0 hv hsq hpm h4 hvh hblk hlen hpn hg
  go_enter Try.func33, Try.ntmps33
  go_wp2_with fail
  refine (HO.out).mono ?_
  rintro e w2 ⟨rfl, hb2⟩
  rw [← HWa.out] at hb2
  have HZ2 := Lib.hid (HZa.out.step (lo := wa.heap.size) (by omega) hb2)
  have HB2 := Lib.hid (HBa.out.trans (hb2.mono HBa.out.size))
  have hs2 : w.heap.size + 1 ≤ w2.heap.size := by have := hb2.size; omega
  have HNw := Lib.hid (HNo.out w2 HB2.out)
  clear hb2
  go_wp2_with fail
  refine (HNw.out).mono ?_
  rintro e w4 ⟨⟨A4, n4, c4, R4, rfl, hn4, ho4⟩, hb4⟩
  obtain rfl : n = n4 := by rw [← hn4, length_sqTo]
  have HO4 := Lib.hid ho4
  have HZ4 := Lib.hid (HZ2.out.step (lo := w2.heap.size) (by omega) hb4)
  have HB4 := Lib.hid (HB2.out.trans (hb4.mono HB2.out.size))
  have hs4 : w.heap.size + 1 ≤ w4.heap.size := by have := hb4.size; omega
  clear hb4 ho4 hn4
  have HE0 := Lib.hid (OwnM.lit0 w4 (Nat.le_refl w4.heap.size) (fun _ => (none, 0)))
  have HEb := Lib.hid ((Below.refl w4.heap.size w4).alloc (Nat.le_refl _) (.cells #[] 37))
  go_wp2
  go_loopw [5, 6, 7, 8] (fun o v _ _ wr => ∃ (i s : Nat) (A' : Option Addr) (c' : Nat) (R' : Spine), 1 ≤ i ∧ i ≤ n ∧ v = .int .i64 i ∧ o = .slice A' s c' ∧ Hid (i = s + 1) ∧ s ≤ n ∧ Hid (OwnM wr w4.heap.size A' c' R' (doR g (n - 1) s)) ∧ Hid (Below w4.heap.size w4 wr)) (fun _ v _ _ _ => n - (intOf v).toNat)
  case atStart => exact ⟨1, 0, _, _, _, Nat.le_refl _, by omega, rfl, rfl, Lib.hid rfl, by omega, HE0, HEb⟩
  case round =>
    obtain ⟨i, s, A', c', R', hi1, hi, rfl, rfl, HIS, hs, HO3, HB3⟩ := hrel
    have hsz3 := HB3.out.size
    by_cases hlt : i < n
    · have HI0 := Lib.hid (OwnI.lit0 wr (Nat.le_refl wr.heap.size))
      have HIb := Lib.hid ((Below.refl wr.heap.size wr).alloc (Nat.le_refl _) (.cells #[] 2))
      obtain ⟨wo, rfl⟩ : ∃ wo, wo = wr := ⟨_, rfl⟩
      go_wp2
      go_loopw [7, 8] (fun o v wr => ∃ (k q t : Nat) (A5 : Option Addr) (c5 : Nat), 1 ≤ k ∧ k ≤ n ∧ v = .int .i64 k ∧ o = .slice A5 t c5 ∧ Hid (k = q + 1) ∧ t ≤ n ∧ Hid ((doTo g i q).length = t) ∧ Hid (OwnI wr wo.heap.size A5 c5 (doTo g i q)) ∧ Hid (Below wo.heap.size wo wr)) (fun _ v _ => n - (intOf v).toNat)
      case atStart => exact ⟨1, 0, 0, _, _, Nat.le_refl _, by omega, rfl, rfl, Lib.hid rfl, by omega, Lib.hid rfl, HI0, HIb⟩
      case round =>
        obtain ⟨k, q, t, A5, c5, hk1, hk, rfl, rfl, HKQ, ht, HT, HO5, HB5⟩ := hrel
        have hsz5 := HB5.out.size
        by_cases hkn : k < n
        · obtain ⟨b, off, e, hb, hc⟩ := HO4.out.rd.at_ i (by rw [length_sqTo]; exact hlt)
          have hrw : row (sqTo g n n) i = rowTo g i n := row_sqTo hlt
          have hrows := HO4.out.rd.rows i (by rw [length_sqTo]; exact hlt)
          rw [hrw] at hc hrows
          obtain ⟨b2, off2, e2, hb2, hc2⟩ := hrows.at_ k (by rw [length_rowTo]; exact hkn)
          rw [nth_rowTo hkn] at hc2
          rw [length_rowTo, e2] at hc
          have hBx := HB3.out.trans (HB5.out.mono hsz3)
          have hcc := (hBx.cell (p := ⟨b, off + i, none⟩) hb).trans hc
          have hcc2 := (hBx.cell (p := ⟨b2, off2 + k, none⟩) hb2).trans hc2
          have hi0 : (0 : Int) ≤ (i : Int) := by omega
          have hi2 : (i : Int) < (n : Int) := by omega
          have hk0 : (0 : Int) ≤ (k : Int) := by omega
          have hk2 : (k : Int) < (n : Int) := by omega
          have hkq := HKQ.out
          clear hc hc2 hrw hrows hBx
          rcases HPm.out i k hlt hkn with hv | hv
          · have HSu := Lib.hid (show doTo g i (q + 1) = doTo g i q ++ [(k : Int) - 1] by rw [doTo_hit (by rw [← hkq]; exact hv), hkq]; simp)
            have hqn : q < n := by omega
            rw [hv] at hcc2
            have HE4 := Lib.hid e
            clear hkq hv e2 hb hb2 e
            rw [HE4.out]
            go_wp2_with (at_builtin; refine wpI_append rfl _ _ rfl wo.heap.size _ _ _ (doTo g i q) ((k : Int) - 1) wr.heap.size rfl rfl HT.out (HO5.out.alloc (.cells #[.int .i64 ((k : Int) - 1)] 2)) (World.cell?_alloc_at _ _ _ _ rfl) (by omega) (by simp; omega) ?_; intro A3 c3 w3 ho3 hg3 ha3)
            have hB3 : Below wo.heap.size wo w3 := (HB5.out.alloc HB5.out.size (.cells #[.int .i64 ((k : Int) - 1)] 2)).trans (below_blk (HO5.out.alloc (.cells #[.int .i64 ((k : Int) - 1)] 2)) hg3 (Nat.le_refl _) (by simp; omega))
            have HO3 := Lib.hid ho3
            have HB3 := Lib.hid hB3
            clear ho3 hg3 ha3 hB3
            have HT3 := Lib.hid (show (doTo g i (q + 1)).length = t + 1 from by rw [HSu.out, List.length_append, HT.out]; rfl)
            have HO6 := Lib.hid (show OwnI w3 wo.heap.size A3 c3 (doTo g i (q + 1)) from by rw [HSu.out]; exact HO3.out)
            have ht3 : t + 1 ≤ n := by have := doTo_len g i (q + 1); have := HT3.out; omega
            go_wp2
            go_roundw
            case rel => exact ⟨k + 1, q + 1, t + 1, A3, c3, by omega, by omega, by go_num, rfl, Lib.hid (by rw [HKQ.out]), ht3, HT3, HO6, HB3⟩
            case measure => simp [intOf]; omega
          · have HSu := Lib.hid (show doTo g i (q + 1) = doTo g i q from doTo_miss (by rw [← hkq, hv]; omega))
            rw [hv] at hcc2
            have HE4 := Lib.hid e
            clear hkq hv e2 hb hb2 e
            rw [HE4.out]
            go_wp2
            go_roundw
            case rel => exact ⟨k + 1, q + 1, t, A5, c5, by omega, by omega, by go_num, rfl, Lib.hid (by rw [HKQ.out]), ht, Lib.hid (by rw [HSu.out]; exact HT.out), Lib.hid (by rw [HSu.out]; exact HO5.out), HB5⟩
            case measure => simp [intOf]; omega
        · obtain rfl : k = n := by omega
          have hqn : q = k - 1 := by have := HKQ.out; omega
          have his : i = s + 1 := HIS.out
          have HOx := Lib.hid (show OwnI wr wo.heap.size A5 c5 (doTo g (s + 1) (k - 1)) from by rw [← his, ← hqn]; exact HO5.out)
          have HTx := Lib.hid (show (doTo g (s + 1) (k - 1)).length = t from by rw [← his, ← hqn]; exact HT.out)
          have HBx := Lib.hid (HB3.out.trans (HB5.out.mono hsz3))
          have hszx := HBx.out.size
          have HDl := Lib.hid (show (doR g (k - 1) s).length = s from doR_len _ _ _)
          have HDs := Lib.hid (doR_succ g (k - 1) s)
          clear hqn his
          have HAp := Lib.hid (later_apart HO3.out HOx.out)
          have HE7 := Lib.hid ((HO3.out.below HB5.out).alloc (.cells #[.slice A5 t c5] 37))
          have HX7 := Lib.hid ((HOx.out.lower (lo' := w4.heap.size) hsz3).alloc (.cells #[.slice A5 t c5] 37))
          go_wp2_with (at_builtin
                       refine wpM_append rfl _ _ rfl w4.heap.size _ _ _ R' (doR g (k - 1) s) A5 t c5 (doTo g (s + 1) (k - 1)) wr.heap.size rfl rfl HDl.out HTx.out HE7.out HX7.out HAp.out (World.cell?_alloc_at _ _ _ _ rfl) (by omega) (by simp; omega) ?_
                       intro A8 c8 R8 w8 ho8 hg8 ha8)
          have HB8 := Lib.hid ((HBx.out.alloc hszx (.cells #[.slice A5 t c5] 37)).trans (below_blkM HE7.out hg8 (Nat.le_refl _) (by simp; omega)))
          have HO8 := Lib.hid (show OwnM w8 w4.heap.size A8 c8 R8 (doR g (k - 1) (s + 1)) from by rw [HDs.out]; exact ho8)
          clear ho8 hg8 ha8
          have hs1 : s + 1 ≤ k := by have := HIS.out; omega
          go_wp2
          go_roundw
          case rel => exact ⟨i + 1, s + 1, A8, c8, R8, by omega, by omega, by go_num, rfl, Lib.hid (by rw [HIS.out]), hs1, HO8, HB8⟩
          case measure => simp [intOf]; omega
    · obtain rfl : i = n := by omega
      have hsn : s = i - 1 := by have := HIS.out; omega
      have HOf := Lib.hid (show OwnM wr w4.heap.size A' c' R' (doR g (i - 1) (i - 1)) from by have := HO3.out; rw [hsn] at this; exact this)
      have hMk := l10Make_c wr ((i : Int) - 1) A' s c' R' (doR g (i - 1) (i - 1)) HOf.out.rd (by rw [doR_len]; exact hsn.symm) (by omega) (fun q hq => HLen.out q (by omega)) (by omega) (by omega) (fun q hq => HBlk.out q (by omega))
      have hl : (doR g (i - 1) (i - 1)).length ≤ 128 := by rw [doR_len]; omega
      rw [show mkP ((i : Int) - 1) (doR g (i - 1) (i - 1)) = (i : Int) - 1 from if_pos hl, show mkL (doR g (i - 1) (i - 1)) = sortLL (doR g (i - 1) (i - 1)) from if_pos hl, show mkC (doR g (i - 1) (i - 1)) = 0 from if_pos hl] at hMk
      have HMk := Lib.hid hMk
      have HZ3 := Lib.hid (HZ4.out.step (lo := w4.heap.size) (by omega) HB3.out)
      have HBw := Lib.hid (HB4.out.trans (HB3.out.mono HB4.out.size))
      clear hMk hl hsn
      go_wp2_with fail
      refine (HMk.out).mono ?_
      rintro e w9 ⟨⟨A9, n9, c9, R9, rfl, hn9, ho9⟩, hb9⟩
      have HZ9 := Lib.hid (HZ3.out.step (lo := wr.heap.size) (by omega) hb9)
      have HB9 := Lib.hid (HBw.out.trans (hb9.mono HBw.out.size))
      have HO9 := Lib.hid (show OwnM w9 (w.heap.size + 1) A9 c9 R9 (sortLL (doR g (i - 1) (i - 1))) from ho9.lower (by omega))
      have HN9 := Lib.hid hn9
      clear hb9 ho9 hn9
      generalize sortLL (doR g (i - 1) (i - 1)) = lst at *
      generalize ((i : Int) - 1) = ptz at *
      generalize (0 : Int) = cdz at *
      have rz := HZ9.out
      have z0 := rz.c0
      have z1 := rz.c1
      have y0 := rz.f0
      have y1 := rz.f1
      clear rz
      go_wp2
      obtain ⟨r0, r1⟩ := HZ9.out.read (.int .i64 ptz) (.slice A9 n9 c9)
      refine bodyPost_ret (v := .tuple #[.agg #[.int .i64 ptz, .slice A9 n9 c9], .int .i64 cdz]) (by simp [results, Try.results33, go_sem, r0, r1]) rfl ⟨⟨A9, n9, c9, R9, rfl, HN9.out, own_set2 HO9.out (by omega) _ _⟩, below_set2 HB9.out (by omega)⟩
end Go.Proofs.Ytdneldecedbepaa
