/-
  MeetingsOf of both sides. Conditions: those of each theorem.
-/
import Derived.Test.YtdneldecedbepaaMeetP
namespace Go.Proofs.Ytdneldecedbepaa
open Go.RowKit
set_option linter.unusedVariables false
set_option linter.unusedSimpArgs false

theorem keepM {lo : Nat} {w w' : World} {q1 q2 q3 : Addr} {v1 v2 v3 : Option Value} (hb : Below lo w w') (h1 : q1.block < lo) (h2 : q2.block < lo) (h3 : q3.block < lo) (h : w.cell? q1 = v1 ∧ w.cell? q2 = v2 ∧ w.cell? q3 = v3) :
    w'.cell? q1 = v1 ∧ w'.cell? q2 = v2 ∧ w'.cell? q3 = v3 := ⟨(hb.cell h1).trans h.1, (hb.cell h2).trans h.2.1, (hb.cell h3).trans h.2.2⟩

theorem RdM.open1 {w : World} {A : Option Addr} {c : Nat} {R : Spine} {h : List (List Int)} (hr : RdM w A c R h) (hn : 0 < h.length) :
    ∃ b off, A = some ⟨b, off, none⟩ ∧ b < w.heap.size ∧ ∀ k, k < h.length → w.cell? ⟨b, off + k, none⟩ = some (.slice (R k).1 (row h k).length (R k).2) := by
  obtain ⟨b, off, rfl, hb, _⟩ := hr.at_ 0 hn
  refine ⟨b, off, rfl, hb, fun k hk => ?_⟩
  obtain ⟨b', off', e, _, hc⟩ := hr.at_ k hk
  injection e with e
  injection e with e1 e2
  subst e1 e2
  exact hc

set_option maxRecDepth 100000 in
set_option maxHeartbeats 8000000 in
theorem specMeetingsOf_c (w : World) (p : Int) (hp : -9223372036854775808 ≤ p ∧ p ≤ 9223372036854775807) (A : Option Addr) (n c : Nat) (R : Spine) (xss : List (List Int)) (hr : RdM w A c R xss) (hn : xss.length = n) (hw : WfM xss) (hz : (n : Int) + (tot xss : Nat) ≤ 1048576) :
    Calls Try.prog 27 #[.agg #[.int .i64 p, .slice A n c]] w (PostSC w (mtR p xss) (mtC p xss)) := by
  clear hw hz
  obtain ⟨wa, hwa⟩ : ∃ wa, wa = w.alloc (.cells #[.int .i64 p, .slice A n c] 26) := ⟨_, rfl⟩
  have hXa : BoxD wa w.heap.size p A n c := by rw [hwa]; exact BoxD.made _ _ _ _ _ _
  have hBa : Below w.heap.size w wa := by rw [hwa]; exact below_boxed _ _
  have hsa : w.heap.size + 1 ≤ wa.heap.size := by rw [hwa]; simp
  have HXa := Lib.hid hXa
  have HBa := Lib.hid hBa
  have hO := l10Ok_c wa w.heap.size A n c R xss p hXa (hr.below hBa) hn
  rw [hwa] at hO
  rcases hd : dsgB p xss with _ | _
  · rw [hd] at hO
    rw [show mtR p xss = [] from if_neg (by rw [hd]; simp), show mtC p xss = 1 from if_neg (by rw [hd]; simp)]
    have HO := Lib.hid hO
    have HWa := Lib.hid hwa
    clear hO hwa hXa hBa hr hn hp hd
    go_enter Try.func27, Try.ntmps27
    go_wp2_with fail
    refine (HO.out).mono ?_
    rintro e w' ⟨rfl, q, rfl⟩
    rw [← HWa.out]
    have HB2 := Lib.hid (below_drewN HBa.out q)
    go_wp2
    go_ret2
    exact ⟨⟨none, 0, 0, rfl, rfl, OwnI.nil_ _ _⟩, HB2.out⟩
  rw [hd] at hO
  have hD := dsgB_true.1 hd
  have hn128 : n ≤ 128 := by have := hD.2.1; omega
  rw [show mtR p xss = putsL (mtL xss n) from (if_pos hd).trans (by rw [hn]), show mtC p xss = 0 from if_pos hd]
  have HMeet := Lib.hid (fun (W : World) (hb : Below w.heap.size w W) (i k : Nat) (hi : i < xss.length) (hk : k < xss.length) => specMeetSets_c W (R i).1 (R k).1 (row xss i).length (row xss k).length (R i).2 (R k).2 (row xss i) (row xss k) ((hr.below hb).rows i hi) rfl ((hr.below hb).rows k hk) rfl (setB_more (blockB_set (hD.2.2 i hi).1) hD.1.2 (by omega)) (setB_more (blockB_set (hD.2.2 k hk).1) hD.1.2 (by omega)))
  have HR := Lib.hid hr
  have HN := Lib.hid hn
  have HO := Lib.hid hO
  have HWa := Lib.hid hwa
  clear hO hwa hXa hBa hr hn hp hd hD
  go_enter Try.func27, Try.ntmps27
  go_wp2_with fail
  refine (HO.out).mono ?_
  rintro e w' ⟨rfl, q, rfl⟩
  rw [← HWa.out]
  have HX2 := Lib.hid (HXa.out.drewN q)
  have HB2 := Lib.hid (below_drewN HBa.out q)
  have hs2 : w.heap.size + 1 ≤ (wa.drewN q).heap.size := hsa
  generalize wa.drewN q = w2 at *
  have HI0 := Lib.hid (OwnI.lit0 w2 (Nat.le_refl w2.heap.size))
  have HIb := Lib.hid ((Below.refl w2.heap.size w2).alloc (Nat.le_refl _) (.cells #[] 2))
  go_wp2
  go_loopw [4, 5, 6] (fun o v _ wr => ∃ (i t : Nat) (A' : Option Addr) (c' : Nat), i ≤ n ∧ v = .int .i64 i ∧ o = .slice A' t c' ∧ Hid ((putsL (mtTo xss i 0)).length = t) ∧ Hid (OwnI wr w2.heap.size A' c' (putsL (mtTo xss i 0))) ∧ Hid (Below w2.heap.size w2 wr)) (fun _ v _ _ => n - (intOf v).toNat)
  case atStart => exact ⟨0, 0, _, _, Nat.zero_le _, rfl, rfl, Lib.hid rfl, HI0, HIb⟩
  case round =>
    obtain ⟨i, t, A', c', hi, rfl, rfl, HT, HO3, HB3⟩ := hrel
    have hx3 := HX2.out.below HB3.out
    have hc1 := hx3.c1
    by_cases hin : i < n
    · clear hx3
      obtain ⟨wo, rfl⟩ : ∃ wo, wo = wr := ⟨_, rfl⟩
      go_wp2
      clear hc1
      go_loopw [4, 6] (fun o v wr => ∃ (k t : Nat) (A' : Option Addr) (c' : Nat), k ≤ i ∧ v = .int .i64 k ∧ o = .slice A' t c' ∧ Hid ((putsL (mtTo xss i k)).length = t) ∧ Hid (OwnI wr w2.heap.size A' c' (putsL (mtTo xss i k))) ∧ Hid (Below w2.heap.size w2 wr)) (fun _ v _ => i - (intOf v).toNat)
      case atStart => exact ⟨0, t, _, _, Nat.zero_le _, rfl, rfl, HT, HO3, HB3⟩
      case round =>
        obtain ⟨k, t5, A5, c5, hk, rfl, rfl, HT5, HO5, HB5⟩ := hrel
        by_cases hki : k < i
        · have hx5 := HX2.out.below HB5.out
          have hc1 := hx5.c1
          have HBw := Lib.hid (HB2.out.trans (HB5.out.mono HB2.out.size))
          obtain ⟨b, off, e, hb, hcl⟩ := HR.out.open1 (by have := HN.out; omega)
          subst e
          have hci := (HBw.out.cell (p := ⟨b, off + i, none⟩) hb).trans (hcl i (by rw [HN.out]; exact hin))
          have hck := (HBw.out.cell (p := ⟨b, off + k, none⟩) hb).trans (hcl k (by rw [HN.out]; omega))
          have hi0 : (0 : Int) ≤ (i : Int) := by omega
          have hi1 : (i : Int) < (n : Int) := by omega
          have hk0 : (0 : Int) ≤ (k : Int) := by omega
          have hk1 : (k : Int) < (n : Int) := by omega
          have hsz5 := HB5.out.size
          have HBd := Lib.hid (show Below w.heap.size w wr.drew from HBw.out.drew)
          have HOd := Lib.hid (show OwnI wr.drew w2.heap.size A5 c5 (putsL (mtTo xss i k)) from HO5.out.drewN 1)
          have HMe := Lib.hid (HMeet.out wr.drew HBd.out i k (by rw [HN.out]; exact hin) (by rw [HN.out]; omega))
          have ht5 : t5 ≤ 20000 := by have := putsL_len (mtTo xss i k); have := mtTo_len (xss := xss) (i := i) (k := k) (by omega) (by omega); have := HT5.out; omega
          have HSu := Lib.hid (show putL (putsL (mtTo xss i k)) (mtF xss i k) = putsL (mtTo xss i (k + 1)) by rw [mtTo_succ, putsL_snoc])
          have HF := Lib.hid (show mtF xss i k = ((meetL (row xss i) (row xss k)).length : Int) from rfl)
          have hq1 : w.heap.size < wr.drew.heap.size := by show w.heap.size < wr.heap.size; omega
          have hq2 : b < wr.drew.heap.size := by show b < wr.heap.size; omega
          clear hcl hx5
          generalize mtF xss i k = mf at *
          go_wp2
          go_region_held3 (fun w' => w'.cell? ⟨w.heap.size, 1, none⟩ = some (.slice (some ⟨b, off, none⟩) n c) ∧ w'.cell? ⟨b, off + i, none⟩ = some (.slice (R i).1 (row xss i).length (R i).2) ∧ w'.cell? ⟨b, off + k, none⟩ = some (.slice (R k).1 (row xss k).length (R k).2)) (first | exact ⟨hc1, hci, hck⟩ | exact hS4 | exact hS6)
            (first | (go_at_call 65; refine (HMe.out).mono ?_; rintro e w4 ⟨⟨A4, n4, c4, rfl, hn4, ho4⟩, hb4⟩; have hS4 := keepM hb4 hq1 hq2 hq2 ⟨hc1, hci, hck⟩; have hmf : mf = (n4 : Int) := by rw [HF.out, hn4]) | (go_at_call 64; refine (l00Put_c w4 A5 t5 c5 (putsL (mtTo xss i k)) (n4 : Int) (HOd.out.below hb4).rd HT5.out (by omega)).mono ?_; rintro e w6 ⟨⟨A6, n6, c6, rfl, hn6, ho6⟩, hb6⟩; have hS6 := keepM (hb4.trans (hb6.mono hb4.size)) hq1 hq2 hq2 ⟨hc1, hci, hck⟩))
          rw [← hmf, HSu.out] at hn6 ho6
          have hsz4 := hb4.size
          have hszd : wr.drew.heap.size = wr.heap.size := rfl
          have HT6 := Lib.hid hn6
          have HO6 := Lib.hid (ho6.lower (lo' := w2.heap.size) (by omega))
          have HB6 := Lib.hid (show Below w2.heap.size w2 w6 from HB5.out.drew.trans ((hb4.trans (hb6.mono hb4.size)).mono hsz5))
          clear hn6 ho6 hb4 hb6 ho4 hn4 hmf hc1 hci hck
          go_wp2
          go_roundw
          case rel => exact ⟨k + 1, n6, A6, c6, by omega, by go_num, rfl, HT6, HO6, HB6⟩
          case measure => simp [intOf]; omega
        · obtain rfl : k = i := by omega
          have HT7 := Lib.hid (show (putsL (mtTo xss (k + 1) 0)).length = t5 from by rw [mtTo_zero, ← mtTo_all]; exact HT5.out)
          have HO7 := Lib.hid (show OwnI wr w2.heap.size A5 c5 (putsL (mtTo xss (k + 1) 0)) from by rw [mtTo_zero, ← mtTo_all]; exact HO5.out)
          go_wp2
          go_roundw
          case rel => exact ⟨k + 1, t5, A5, c5, by omega, by go_num, rfl, HT7, HO7, HB5⟩
          case measure => simp [intOf]; omega
    · obtain rfl : i = n := by omega
      have HTf := Lib.hid (show (putsL (mtL xss i)).length = t from by rw [← mtTo_zero]; exact HT.out)
      have HOf := Lib.hid (show OwnI wr w.heap.size A' c' (putsL (mtL xss i)) from by rw [← mtTo_zero]; exact HO3.out.lower (by omega))
      have HBf := Lib.hid (HB2.out.trans (HB3.out.mono HB2.out.size))
      go_wp2
      go_ret2
      exact ⟨⟨A', t, c', rfl, HTf.out, HOf.out⟩, HBf.out⟩

set_option maxRecDepth 100000 in
set_option maxHeartbeats 8000000 in
theorem implMeetingsOf_c (w : World) (p : Int) (hp : -9223372036854775808 ≤ p ∧ p ≤ 9223372036854775807) (A : Option Addr) (n c : Nat) (R : Spine) (xss : List (List Int)) (hr : RdM w A c R xss) (hn : xss.length = n) (hw : WfM xss) (hz : (n : Int) + (tot xss : Nat) ≤ 1048576) :
    Calls Try.prog 28 #[.agg #[.int .i64 p, .slice A n c]] w (PostSC w (mtR p xss) (mtC p xss)) := by
  clear hw hz
  obtain ⟨wa, hwa⟩ : ∃ wa, wa = w.alloc (.cells #[.int .i64 p, .slice A n c] 26) := ⟨_, rfl⟩
  have hXa : BoxD wa w.heap.size p A n c := by rw [hwa]; exact BoxD.made _ _ _ _ _ _
  have hBa : Below w.heap.size w wa := by rw [hwa]; exact below_boxed _ _
  have hsa : w.heap.size + 1 ≤ wa.heap.size := by rw [hwa]; simp
  have HXa := Lib.hid hXa
  have HBa := Lib.hid hBa
  have hO := ValidDesign_c wa p A n c R xss (hr.below hBa) hn
  rw [hwa] at hO
  rcases hd : dsgB p xss with _ | _
  · rw [hd] at hO
    rw [show mtR p xss = [] from if_neg (by rw [hd]; simp), show mtC p xss = 1 from if_neg (by rw [hd]; simp)]
    have HO := Lib.hid hO
    have HWa := Lib.hid hwa
    clear hO hwa hXa hBa hr hn hp hd
    go_enter Try.func28, Try.ntmps28
    go_wp2_with fail
    refine (HO.out).mono ?_
    rintro e w2 ⟨rfl, hb2⟩
    rw [← HWa.out] at hb2
    have HB2 := Lib.hid (HBa.out.trans (hb2.mono HBa.out.size))
    clear hb2
    go_wp2
    go_ret2
    exact ⟨⟨none, 0, 0, rfl, rfl, OwnI.nil_ _ _⟩, HB2.out⟩
  have hMeetI := fun (W : World) (hb : Below w.heap.size w W) (i k : Nat) (hi : i < xss.length) (hk : k < xss.length) => MeetSets_c W (R i).1 (R k).1 (row xss i).length (row xss k).length (R i).2 (R k).2 (row xss i) (row xss k) ((hr.below hb).rows i hi) rfl ((hr.below hb).rows k hk) rfl
  have hnc : n ≤ c := by have := hr.le; omega
  rw [hd] at hO
  have hD := dsgB_true.1 hd
  have hn128 : n ≤ 128 := by have := hD.2.1; omega
  rw [show mtR p xss = putsL (mtL xss n) from (if_pos hd).trans (by rw [hn]), show mtC p xss = 0 from if_pos hd]
  have HMeet := Lib.hid (fun (W : World) (hb : Below w.heap.size w W) (i k : Nat) (hi : i < xss.length) (hk : k < xss.length) => specMeetSets_c W (R i).1 (R k).1 (row xss i).length (row xss k).length (R i).2 (R k).2 (row xss i) (row xss k) ((hr.below hb).rows i hi) rfl ((hr.below hb).rows k hk) rfl (setB_more (blockB_set (hD.2.2 i hi).1) hD.1.2 (by omega)) (setB_more (blockB_set (hD.2.2 k hk).1) hD.1.2 (by omega)))
  have HR := Lib.hid hr
  have HN := Lib.hid hn
  have HO := Lib.hid hO
  have HWa := Lib.hid hwa
  have HMeetI := Lib.hid hMeetI
  clear hO hwa hXa hBa hr hn hp hd hD hMeetI HMeet
  go_enter Try.func28, Try.ntmps28
  go_wp2_with fail
  refine (HO.out).mono ?_
  rintro e w2 ⟨rfl, hb2⟩
  rw [← HWa.out] at hb2
  have HX2 := Lib.hid (HXa.out.below hb2)
  have HB2 := Lib.hid (HBa.out.trans (hb2.mono HBa.out.size))
  have hs2 : w.heap.size + 1 ≤ w2.heap.size := by have := hb2.size; omega
  have hc1 := HX2.out.c1
  clear hb2
  have HI0 := Lib.hid (OwnI.nil_ w2 w2.heap.size)
  have HIb := Lib.hid (Below.refl w2.heap.size w2)
  go_wp2
  clear hc1
  go_loopw [4, 15] (fun o v wr => ∃ (i t : Nat) (A' : Option Addr) (c' : Nat), i ≤ n ∧ v = .int .i64 i ∧ o = .slice A' t c' ∧ Hid ((mtTo xss i 0).length = t) ∧ Hid (OwnI wr w2.heap.size A' c' (mtTo xss i 0)) ∧ Hid (Below w2.heap.size w2 wr)) (fun _ v _ => n - (intOf v).toNat)
  case atStart => exact ⟨0, 0, _, _, Nat.zero_le _, rfl, rfl, Lib.hid rfl, HI0, HIb⟩
  case round =>
    obtain ⟨i, t, A', c', hi, rfl, rfl, HT, HO3, HB3⟩ := hrel
    have hsz3 := HB3.out.size
    by_cases hin : i < n
    · obtain ⟨b, off, e, hb, hcl⟩ := HR.out.open1 (by have := HN.out; omega)
      subst e
      have HBw := Lib.hid (HB2.out.trans (HB3.out.mono HB2.out.size))
      have hx3 := HX2.out.below HB3.out
      have hc1 := hx3.c1
      have hci := (HBw.out.cell (p := ⟨b, off + i, none⟩) hb).trans (hcl i (by rw [HN.out]; exact hin))
      have HCl := Lib.hid hcl
      have hi0 : (0 : Int) ≤ (i : Int) := by omega
      have hi1 : (i : Int) < (n : Int) := by omega
      have hic : (i : Int) ≤ (c : Int) := by omega
      have hicn : i ≤ c := by omega
      obtain ⟨wo, rfl⟩ : ∃ wo, wo = wr := ⟨_, rfl⟩
      clear hx3 hcl
      go_wp2
      clear hc1 hci
      go_loopw [4, 25] (fun o v wr => ∃ (k t : Nat) (A' : Option Addr) (c' : Nat), k ≤ i ∧ v = .int .i64 k ∧ o = .slice A' t c' ∧ Hid ((mtTo xss i k).length = t) ∧ Hid (OwnI wr w2.heap.size A' c' (mtTo xss i k)) ∧ Hid (Below w2.heap.size w2 wr)) (fun _ v _ => i - (intOf v).toNat)
      case atStart => exact ⟨0, t, _, _, Nat.zero_le _, rfl, rfl, HT, HO3, HB3⟩
      case round =>
        obtain ⟨k, t5, A5, c5, hk, rfl, rfl, HT5, HO5, HB5⟩ := hrel
        have hsz5 := HB5.out.size
        by_cases hki : k < i
        · have HBw5 := Lib.hid (HB2.out.trans (HB5.out.mono HB2.out.size))
          have hck := (HBw5.out.cell (p := ⟨b, off + k, none⟩) hb).trans (HCl.out k (by rw [HN.out]; omega))
          have hk0 : (0 : Int) ≤ (k : Int) := by omega
          have hk1 : (k : Int) < (i : Int) := by omega
          have HMe := Lib.hid (HMeetI.out wr HBw5.out i k (by rw [HN.out]; exact hin) (by rw [HN.out]; omega))
          have HSu := Lib.hid (mtTo_succ xss i k)
          have HF := Lib.hid (show mtF xss i k = ((meetL (row xss i) (row xss k)).length : Int) from rfl)
          have ht5 : t5 ≤ 20000 := by have := mtTo_len (xss := xss) (i := i) (k := k) (by omega) (by omega); have := HT5.out; omega
          generalize mtF xss i k = mf at *
          go_wp2_with fail
          refine (HMe.out).mono ?_
          rintro e w4 ⟨⟨A4, n4, c4, rfl, hn4, ho4⟩, hb4⟩
          have hmf : mf = (n4 : Int) := by rw [HF.out, hn4]
          have HO4 := Lib.hid (HO5.out.below hb4)
          have HB4 := Lib.hid (HB5.out.trans (hb4.mono hsz5))
          have hsz4 := HB4.out.size
          rw [hmf] at HSu
          clear hb4 ho4 hn4 hmf HF hck
          go_wp2_with fail
          refine (sizeI_c _ _ _ _).mono ?_
          rintro e w' ⟨rfl, rfl⟩
          go_wp2_with (at_builtin; refine wpI_append rfl _ _ rfl w2.heap.size _ _ _ (mtTo xss i k) ((n4 : Int)) w4.heap.size rfl rfl HT5.out (HO4.out.alloc (.cells #[.int .i64 ((n4 : Int))] 2)) (World.cell?_alloc_at _ _ _ _ rfl) (by omega) (by simp; omega) ?_; intro A3 c3 w3 ho3 hg3 ha3)
          have hB3 : Below w2.heap.size w2 w3 := (HB4.out.alloc HB4.out.size (.cells #[.int .i64 ((n4 : Int))] 2)).trans (below_blk (HO4.out.alloc (.cells #[.int .i64 ((n4 : Int))] 2)) hg3 (Nat.le_refl _) (by simp; omega))
          have HO3 := Lib.hid ho3
          have HB3 := Lib.hid hB3
          clear ho3 hg3 ha3 hB3
          have HT6 := Lib.hid (show (mtTo xss i (k + 1)).length = t5 + 1 from by rw [HSu.out, List.length_append, HT5.out]; rfl)
          have HO6 := Lib.hid (show OwnI w3 w2.heap.size A3 c3 (mtTo xss i (k + 1)) from by rw [HSu.out]; exact HO3.out)
          go_wp2
          go_roundw
          case rel => exact ⟨k + 1, t5 + 1, A3, c3, by omega, by go_num, rfl, HT6, HO6, HB3⟩
          case measure => simp [intOf]; omega
        · obtain rfl : k = i := by omega
          have HT7 := Lib.hid (show (mtTo xss (k + 1) 0).length = t5 from by rw [mtTo_zero, ← mtTo_all]; exact HT5.out)
          have HO7 := Lib.hid (show OwnI wr w2.heap.size A5 c5 (mtTo xss (k + 1) 0) from by rw [mtTo_zero, ← mtTo_all]; exact HO5.out)
          go_wp2
          go_roundw
          case rel => exact ⟨k + 1, t5, A5, c5, by omega, by go_num, rfl, HT7, HO7, HB5⟩
          case measure => simp [intOf]; omega
    · obtain rfl : i = n := by omega
      have HTf := Lib.hid (show (mtL xss i).length = t from by rw [← mtTo_zero]; exact HT.out)
      have HOf := Lib.hid (show OwnI wr w2.heap.size A' c' (mtL xss i) from by rw [← mtTo_zero]; exact HO3.out)
      have ht : t ≤ 1048576 := by have := mtL_len (xss := xss) (i := i) (by omega); have := HTf.out; omega
      have HSo := Lib.hid (sort_c wr HOf.out HTf.out ht)
      have HBf := Lib.hid (HB2.out.trans (HB3.out.mono HB2.out.size))
      go_wp2_with fail
      refine (HSo.out).mono ?_
      rintro e w4 ⟨rfl, ho4, hg4⟩
      have HO4 := Lib.hid ho4
      have HB4 := Lib.hid (HB3.out.trans (below_blk HOf.out hg4 (Nat.le_refl _) hsz3))
      have hsz4 := HB4.out.size
      have HCo := Lib.hid (compact_c w4 HO4.out (by rw [sortL_len]; exact HTf.out) ht)
      clear ho4 hg4
      go_wp2_with fail
      refine (HCo.out).mono ?_
      rintro e w6 ⟨rfl, ho6, hg6⟩
      have HB6 := Lib.hid (HB4.out.trans (below_blk HO4.out hg6 (Nat.le_refl _) hsz4))
      rw [cmpt_puts] at ho6 ⊢
      have HO6 := Lib.hid (ho6.lower (lo' := w.heap.size) (by omega))
      have HBz := Lib.hid (HB2.out.trans (HB6.out.mono HB2.out.size))
      clear ho6 hg6
      go_wp2
      go_ret2
      exact ⟨⟨A', _, c', rfl, rfl, HO6.out⟩, HBz.out⟩
end Go.Proofs.Ytdneldecedbepaa
