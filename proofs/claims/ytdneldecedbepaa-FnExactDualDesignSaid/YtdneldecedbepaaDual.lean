/-
  DualDesign of both sides. Conditions: those of each theorem.
-/
import Derived.Test.YtdneldecedbepaaDualP
namespace Go.Proofs.Ytdneldecedbepaa
open Go.RowKit
set_option linter.unusedVariables false
set_option linter.unusedSimpArgs false

set_option maxRecDepth 100000 in
set_option maxHeartbeats 8000000 in
theorem specDualDesign_c (w : World) (p : Int) (hp : -9223372036854775808 ≤ p ∧ p ≤ 9223372036854775807) (A : Option Addr) (n c : Nat) (R : Spine) (xss : List (List Int)) (hr : RdM w A c R xss) (hn : xss.length = n) (hw : WfM xss) (hz : (n : Int) + (tot xss : Nat) ≤ 1048576) :
    Calls Try.prog 23 #[.agg #[.int .i64 p, .slice A n c]] w (PostDC w (duP p xss) (duX p xss) (duC p xss)) := by
  clear hw hz
  have hzD := zeroD
  obtain ⟨wa, hwa⟩ : ∃ wa, wa = (w.alloc (.cells #[.int .i64 p, .slice A n c] 26)).alloc (.cells #[.int .i64 0, .slice none 0 0] 26) := ⟨_, rfl⟩
  have hXa : BoxD wa w.heap.size p A n c := by rw [hwa]; exact (BoxD.made _ _ _ _ _ _).below (below_boxed _ _)
  have hZa : RBox wa (w.heap.size + 1) := by
    rw [hwa]
    have := RBox.made (w.alloc (.cells #[.int .i64 p, .slice A n c] 26)) 26
    simpa using this
  have hBa : Below w.heap.size w wa := by rw [hwa]; exact (below_boxed _ _).alloc (by simp) _
  have hsa : w.heap.size + 2 ≤ wa.heap.size := by rw [hwa]; simp
  have HXa := Lib.hid hXa
  have HZa := Lib.hid hZa
  have HBa := Lib.hid hBa
  have hO := l10Ok_c wa w.heap.size A n c R xss p hXa (hr.below hBa) hn
  rw [hwa] at hO
  rcases hd : dsgB p xss with _ | _
  · have h1 : duC p xss = 1 := if_neg (by rw [hd]; simp)
    rw [show duP p xss = 0 from if_neg (by omega), show duX p xss = [] from if_neg (by omega), h1]
    rw [hd] at hO
    have HO := Lib.hid hO
    have HWa := Lib.hid hwa
    clear hO hwa hXa hZa hBa hr hn hp hd h1
    go_enter Try.func23, Try.ntmps23
    go_wp2_with fail
    refine (HO.out).mono ?_
    rintro e w' ⟨rfl, q, rfl⟩
    rw [← HWa.out]
    have HZ2 := Lib.hid (HZa.out.drewN q)
    have HB2 := Lib.hid (below_drewN HBa.out q)
    generalize wa.drewN q = w2 at *
    have rz := HZ2.out
    have z0 := rz.c0
    have z1 := rz.c1
    have y0 := rz.f0
    have y1 := rz.f1
    clear rz
    go_wp2
    obtain ⟨r0, r1⟩ := HZ2.out.read (.int .i64 0) (.slice none 0 0)
    refine bodyPost_ret (v := .tuple #[.agg #[.int .i64 0, .slice none 0 0], .int .i64 1]) (by simp [results, Try.results23, go_sem, r0, r1]) rfl ⟨⟨none, 0, 0, fun _ => (none, 0), rfl, rfl, OwnM.nil_ _ _ _⟩, below_set2 HB2.out (by omega)⟩
  rw [hd] at hO
  have HO := Lib.hid hO
  have HWa := Lib.hid hwa
  have hn128 : n ≤ 128 := by have := (dsgB_true.1 hd).2.1; omega
  have hIn := fun W => in_c (n : Int) 1 32 W
  rcases hi : inB (n : Int) 1 32 with _ | _
  · simp only [hi] at hIn
    have h1 : duC p xss = 2 := (if_pos hd).trans (if_neg (by rw [hn, hi]; simp))
    rw [show duP p xss = 0 from if_neg (by omega), show duX p xss = [] from if_neg (by omega), h1]
    have HIn := Lib.hid hIn
    clear hO hwa hXa hZa hBa hr hn hp hd h1 hi hIn
    go_enter Try.func23, Try.ntmps23
    go_wp2_with fail
    refine (HO.out).mono ?_
    rintro e w' ⟨rfl, q, rfl⟩
    rw [← HWa.out]
    have HX2 := Lib.hid (HXa.out.drewN q)
    have HZ2 := Lib.hid (HZa.out.drewN q)
    have HB2 := Lib.hid (below_drewN HBa.out q)
    have hs2 : w.heap.size + 2 ≤ (wa.drewN q).heap.size := hsa
    generalize wa.drewN q = w2 at *
    have hc0 := HX2.out.c0
    have hc1 := HX2.out.c1
    go_wp2_with fail
    refine (HIn.out w2).mono ?_
    rintro e w' ⟨rfl, rfl⟩
    have rz := HZ2.out
    have z0 := rz.c0
    have z1 := rz.c1
    have y0 := rz.f0
    have y1 := rz.f1
    clear rz
    go_wp2
    obtain ⟨r0, r1⟩ := HZ2.out.read (.int .i64 0) (.slice none 0 0)
    refine bodyPost_ret (v := .tuple #[.agg #[.int .i64 0, .slice none 0 0], .int .i64 2]) (by simp [results, Try.results23, go_sem, r0, r1]) rfl ⟨⟨none, 0, 0, fun _ => (none, 0), rfl, rfl, OwnM.nil_ _ _ _⟩, below_set2 HB2.out (by omega)⟩
  simp only [hi] at hIn
  have HIn := Lib.hid hIn
  have hn32 := inB_true.1 hi
  have hn32' : n ≤ 32 := by omega
  have hD := dsgB_true.1 hd
  obtain ⟨P, rfl⟩ : ∃ P : Nat, p = (P : Int) := ⟨p.toNat, by have := hD.1.1; omega⟩
  have hP : P ≤ 32 := by have := hD.1.2; omega
  obtain ⟨bad, hbad⟩ : ∃ bad : Prop, bad = duBad xss P := ⟨_, rfl⟩
  have HBad := Lib.hid (show bad ↔ ∃ x, x < P ∧ (duTo xss (x : Int) n).length = 0 from by rw [hbad, ← hn]; exact Iff.rfl)
  have HRes : (bad → duP (P : Int) xss = 0 ∧ duX (P : Int) xss = [] ∧ duC (P : Int) xss = 6) ∧ (¬ bad → duP (P : Int) xss = (n : Int) ∧ duX (P : Int) xss = sortLL (duR xss n P) ∧ duC (P : Int) xss = 0) := by
    rw [hbad]
    refine ⟨fun h => ?_, fun h => ?_⟩
    · have h1 : duC (P : Int) xss = 6 := (if_pos hd).trans ((if_pos (by rw [hn]; exact hi)).trans (if_pos h))
      exact ⟨if_neg (by omega), if_neg (by omega), h1⟩
    · have h1 : duC (P : Int) xss = 0 := (if_pos hd).trans ((if_pos (by rw [hn]; exact hi)).trans (if_neg h))
      exact ⟨(if_pos h1).trans (by rw [hn]), (if_pos h1).trans (by rw [hn]; rfl), h1⟩
  have HRes := Lib.hid HRes
  have HR := Lib.hid hr
  have HN := Lib.hid hn
  generalize duP (P : Int) xss = rP at *
  generalize duX (P : Int) xss = rX at *
  generalize duC (P : Int) xss = rC at *
  clear hO hwa hXa hZa hBa hr hn hp hd hi hIn hD hbad
  have HHas := Lib.hid (fun (W : World) (hb : Below w.heap.size w W) (k : Nat) (hk : k < xss.length) (a : Int) => has_c W (R k).1 (row xss k).length (R k).2 (row xss k) a ((HR.out.below hb).rows k hk) rfl)
  go_enter Try.func23, Try.ntmps23
  go_wp2_with fail
  refine (HO.out).mono ?_
  rintro e w' ⟨rfl, q, rfl⟩
  rw [← HWa.out]
  have HX2 := Lib.hid (HXa.out.drewN q)
  have HZ2 := Lib.hid (HZa.out.drewN q)
  have HB2 := Lib.hid (below_drewN HBa.out q)
  have hs2 : w.heap.size + 2 ≤ (wa.drewN q).heap.size := hsa
  generalize wa.drewN q = w2 at *
  have hc0 := HX2.out.c0
  have hc1 := HX2.out.c1
  go_wp2_with fail
  refine (HIn.out w2).mono ?_
  rintro e w' ⟨rfl, rfl⟩
  have hs2 : w.heap.size + 2 ≤ w2.heap.size := hs2
  have HE0 := Lib.hid (OwnM.lit0 w2 (Nat.le_refl w2.heap.size) (fun _ => (none, 0)))
  have HEb := Lib.hid ((Below.refl w2.heap.size w2).alloc (Nat.le_refl _) (.cells #[] 37))
  go_wp2
  clear hc0 hc1
  go_loopw [4, 5, 6, 7] (fun o v _ _ wr => ∃ (a : Nat) (A' : Option Addr) (c' : Nat) (R' : Spine), a ≤ P ∧ v = .int .i64 a ∧ o = .slice A' a c' ∧ Hid (∀ x, x < a → (duTo xss (x : Int) n).length ≠ 0) ∧ Hid (OwnM wr w2.heap.size A' c' R' (duR xss n a)) ∧ Hid (Below w2.heap.size w2 wr)) (fun _ v _ _ _ => P - (intOf v).toNat)
  case atStart => exact ⟨0, _, _, _, Nat.zero_le _, rfl, rfl, Lib.hid (fun x hx => absurd hx (by omega)), HE0, HEb⟩
  case round =>
    obtain ⟨a, A', c', R', ha, rfl, rfl, HNo, HO3, HB3⟩ := hrel
    have hsz3 := HB3.out.size
    have hx3 := HX2.out.below HB3.out
    have hc0 := hx3.c0
    have hc1 := hx3.c1
    have HBw := Lib.hid (HB2.out.trans (HB3.out.mono HB2.out.size))
    clear hx3
    by_cases hlt : a < P
    · have HI0 := Lib.hid (OwnI.lit0 wr (Nat.le_refl wr.heap.size))
      have HIb := Lib.hid ((Below.refl wr.heap.size wr).alloc (Nat.le_refl _) (.cells #[] 2))
      have HX3 := Lib.hid (HX2.out.below HB3.out)
      obtain ⟨wo, rfl⟩ : ∃ wo, wo = wr := ⟨_, rfl⟩
      go_wp2
      clear hc0 hc1
      go_loopw [6, 7] (fun o v wr => ∃ (k t : Nat) (A5 : Option Addr) (c5 : Nat), k ≤ n ∧ v = .int .i64 k ∧ o = .slice A5 t c5 ∧ t ≤ k ∧ Hid ((duTo xss (a : Int) k).length = t) ∧ Hid (OwnI wr wo.heap.size A5 c5 (duTo xss (a : Int) k)) ∧ Hid (Below wo.heap.size wo wr)) (fun _ v _ => n - (intOf v).toNat)
      case atStart => exact ⟨0, 0, _, _, Nat.zero_le _, rfl, rfl, Nat.zero_le _, Lib.hid rfl, HI0, HIb⟩
      case round =>
        obtain ⟨k, t, A5, c5, hk, rfl, rfl, ht, HT, HO5, HB5⟩ := hrel
        have hsz5 := HB5.out.size
        have hx5 := HX3.out.below HB5.out
        have hc0 := hx5.c0
        have hc1 := hx5.c1
        clear hx5
        by_cases hkn : k < n
        · have hkx : k < xss.length := by rw [HN.out]; exact hkn
          have hBx := HBw.out.trans (HB5.out.mono HBw.out.size)
          obtain ⟨b, off, e, hb, hc⟩ := HR.out.at_ k hkx
          have hcc := (hBx.cell (p := ⟨b, off + k, none⟩) hb).trans hc
          subst e
          have hk1 : (0 : Int) ≤ (k : Int) := by omega
          have hk2 : (k : Int) < (n : Int) := by omega
          have hSu := duTo_succ xss (a : Int) k
          have hH := HHas.out wr hBx k hkx (a : Int)
          clear hc hBx
          rcases hv : hasB (row xss k) (a : Int) with _ | _
          · rw [hv] at hSu hH
            simp only [Bool.false_eq_true, if_false, List.append_nil] at hSu
            have HSu := Lib.hid hSu
            have HH := Lib.hid hH
            clear hSu hH hv
            go_wp2_with fail
            refine (HH.out).mono ?_
            rintro e w' ⟨rfl, rfl⟩
            clear hc0 hc1 hcc
            go_wp2
            go_roundw
            case rel => exact ⟨k + 1, t, A5, c5, by omega, by go_num, rfl, by omega, Lib.hid (by rw [HSu.out]; exact HT.out), Lib.hid (by rw [HSu.out]; exact HO5.out), HB5⟩
            case measure => simp [intOf]; omega
          · rw [hv] at hSu hH
            simp only [if_true] at hSu
            have HSu := Lib.hid hSu
            have HH := Lib.hid hH
            clear hSu hH hv
            go_wp2_with fail
            refine (HH.out).mono ?_
            rintro e w' ⟨rfl, rfl⟩
            clear hc0 hc1 hcc
            go_wp2_with (at_builtin; refine wpI_append rfl _ _ rfl wo.heap.size _ _ _ (duTo xss (a : Int) k) ((k : Int)) wr.heap.size rfl rfl HT.out (HO5.out.alloc (.cells #[.int .i64 ((k : Int))] 2)) (World.cell?_alloc_at _ _ _ _ rfl) (by omega) (by simp; omega) ?_; intro A3 c3 w3 ho3 hg3 ha3)
            have hB3 : Below wo.heap.size wo w3 := (HB5.out.alloc HB5.out.size (.cells #[.int .i64 ((k : Int))] 2)).trans (below_blk (HO5.out.alloc (.cells #[.int .i64 ((k : Int))] 2)) hg3 (Nat.le_refl _) (by simp; omega))
            have HO3 := Lib.hid ho3
            have HB3 := Lib.hid hB3
            clear ho3 hg3 ha3 hB3
            have HT3 := Lib.hid (show (duTo xss (a : Int) (k + 1)).length = t + 1 from by rw [HSu.out, List.length_append, HT.out]; rfl)
            have HO6 := Lib.hid (show OwnI w3 wo.heap.size A3 c3 (duTo xss (a : Int) (k + 1)) from by rw [HSu.out]; exact HO3.out)
            go_wp2
            go_roundw
            case rel => exact ⟨k + 1, t + 1, A3, c3, by omega, by go_num, rfl, by omega, HT3, HO6, HB3⟩
            case measure => simp [intOf]; omega
        · obtain rfl : k = n := by omega
          have HBx := Lib.hid (HB3.out.trans (HB5.out.mono hsz3))
          have hszx := HBx.out.size
          by_cases ht0 : t = 0
          · subst ht0
            obtain ⟨e1, e2, e3⟩ := HRes.out.1 (HBad.out.2 ⟨a, hlt, HT.out⟩)
            subst e1 e2 e3
            have HZx := Lib.hid (HZ2.out.step (lo := w2.heap.size) (by omega) HBx.out)
            have HBwx := Lib.hid (HB2.out.trans (HBx.out.mono HB2.out.size))
            have rz := HZx.out
            have z0 := rz.c0
            have z1 := rz.c1
            have y0 := rz.f0
            have y1 := rz.f1
            clear rz
            go_wp2
            obtain ⟨r0, r1⟩ := HZx.out.read (.int .i64 0) (.slice none 0 0)
            refine bodyPost_ret (v := .tuple #[.agg #[.int .i64 0, .slice none 0 0], .int .i64 6]) (by simp [results, Try.results23, go_sem, r0, r1]) rfl ⟨⟨none, 0, 0, fun _ => (none, 0), rfl, rfl, OwnM.nil_ _ _ _⟩, below_set2 HBwx.out (by omega)⟩
          · have hd0 : ((t : Int) == 0) = false := by simp; omega
            have HNo' := Lib.hid (show ∀ x, x < a + 1 → (duTo xss (x : Int) k).length ≠ 0 from fun x hx => by
              by_cases e : x = a
              · subst e; have := HT.out; omega
              · exact HNo.out x (by omega))
            have HDl := Lib.hid (show (duR xss k a).length = a from duR_len _ _ _)
            have HDs := Lib.hid (duR_succ xss k a)
            have HAp := Lib.hid (later_apart HO3.out HO5.out)
            have HE7 := Lib.hid ((HO3.out.below HB5.out).alloc (.cells #[.slice A5 t c5] 37))
            have HX7 := Lib.hid ((HO5.out.lower (lo' := w2.heap.size) hsz3).alloc (.cells #[.slice A5 t c5] 37))
            go_wp2_with (at_builtin
                         refine wpM_append rfl _ _ rfl w2.heap.size _ _ _ R' (duR xss k a) A5 t c5 (duTo xss (a : Int) k) wr.heap.size rfl rfl HDl.out HT.out HE7.out HX7.out HAp.out (World.cell?_alloc_at _ _ _ _ rfl) (by omega) (by simp; omega) ?_
                         intro A8 c8 R8 w8 ho8 hg8 ha8)
            have HB8 := Lib.hid ((HBx.out.alloc hszx (.cells #[.slice A5 t c5] 37)).trans (below_blkM HE7.out hg8 (Nat.le_refl _) (by simp; omega)))
            have HO8 := Lib.hid (show OwnM w8 w2.heap.size A8 c8 R8 (duR xss k (a + 1)) from by rw [HDs.out]; exact ho8)
            clear ho8 hg8 ha8
            go_wp2
            go_roundw
            case rel => exact ⟨a + 1, A8, c8, R8, by omega, by go_num, rfl, HNo', HO8, HB8⟩
            case measure => simp [intOf]; omega
    · obtain rfl : a = P := by omega
      have hnb : ¬ bad := fun h => by
        obtain ⟨x, hx, h2⟩ := HBad.out.1 h
        exact HNo.out x hx h2
      obtain ⟨e1, e2, e3⟩ := HRes.out.2 hnb
      subst e1 e2 e3
      have hMk := l10Make_c wr (n : Int) A' a c' R' (duR xss n a) HO3.out.rd (duR_len _ _ _) (by omega) (fun x hx => by rw [duR_row hx]; have := duTo_len xss (x : Int) n; omega) (by omega) (by omega) (fun x hx => by rw [duR_row hx]; exact duTo_block hn32' (HNo.out x hx))
      have hl : (duR xss n a).length ≤ 128 := by rw [duR_len]; omega
      rw [show mkP (n : Int) (duR xss n a) = (n : Int) from if_pos hl, show mkL (duR xss n a) = sortLL (duR xss n a) from if_pos hl, show mkC (duR xss n a) = 0 from if_pos hl] at hMk
      have HMk := Lib.hid hMk
      have HZ3 := Lib.hid (HZ2.out.step (lo := w2.heap.size) (by omega) HB3.out)
      clear hMk hl
      go_wp2_with fail
      refine (HMk.out).mono ?_
      rintro e w9 ⟨⟨A9, n9, c9, R9, rfl, hn9, ho9⟩, hb9⟩
      have HZ9 := Lib.hid (HZ3.out.step (lo := wr.heap.size) (by omega) hb9)
      have HB9 := Lib.hid (HBw.out.trans (hb9.mono HBw.out.size))
      have HO9 := Lib.hid (show OwnM w9 (w.heap.size + 1 + 1) A9 c9 R9 (sortLL (duR xss n a)) from ho9.lower (by omega))
      have HN9 := Lib.hid hn9
      clear hb9 ho9 hn9
      generalize sortLL (duR xss n a) = lst at *
      generalize (n : Int) = ptz at *
      generalize (0 : Int) = cdz at *
      have rz := HZ9.out
      have z0 := rz.c0
      have z1 := rz.c1
      have y0 := rz.f0
      have y1 := rz.f1
      clear rz
      go_wp2
      obtain ⟨r0, r1⟩ := HZ9.out.read (.int .i64 ptz) (.slice A9 n9 c9)
      refine bodyPost_ret (v := .tuple #[.agg #[.int .i64 ptz, .slice A9 n9 c9], .int .i64 cdz]) (by simp [results, Try.results23, go_sem, r0, r1]) rfl ⟨⟨A9, n9, c9, R9, rfl, HN9.out, own_set2 HO9.out (by omega) _ _⟩, below_set2 HB9.out (by omega)⟩
end Go.Proofs.Ytdneldecedbepaa
