/-
  CompletePlane of the program. Conditions: those of each theorem.
-/
import Derived.Test.YtcdbbcnoleilfaaCpP
import Derived.Test.YtcdbbcnoleilfaaPcI
namespace Go.Proofs.Ytcdbbcnoleilfaa
open Go.RowKit
set_option linter.unusedVariables false
set_option linter.unusedSimpArgs false

set_option maxRecDepth 100000 in
set_option maxHeartbeats 16000000 in
theorem implCompletePlane_c (w : World) (p : Int) (hp : -9223372036854775808 ≤ p ∧ p ≤ 9223372036854775807) (A : Option Addr) (n c : Nat) (R : Spine) (xss : List (List Int)) (hr : RdM w A c R xss) (hn : xss.length = n) (hw : WfM xss) (hz : (n : Int) + (tot xss : Nat) ≤ 1048576) :
    Calls Try.prog 30 #[.agg #[.int .i64 p, .slice A n c]] w (PostDC w (cpP p xss) (cpX p xss) (cpC p xss)) := by
  have hzD := zeroD
  obtain ⟨wa, hwa⟩ : ∃ wa, wa = (w.alloc (.cells #[.int .i64 p, .slice A n c] 31)).alloc (.cells #[.int .i64 0, .slice none 0 0] 31) := ⟨_, rfl⟩
  have hXa : BoxD wa w.heap.size p A n c := by rw [hwa]; exact (BoxD.made _ _ _ _ _ _).below (below_boxed _ _)
  have hZa : RBox wa (w.heap.size + 1) := by
    rw [hwa]
    have := RBox.made (w.alloc (.cells #[.int .i64 p, .slice A n c] 31)) 31
    simpa using this
  have hBa : Below w.heap.size w wa := by rw [hwa]; exact (below_boxed _ _).alloc (by simp) _
  have hsa : w.heap.size + 2 ≤ wa.heap.size := by rw [hwa]; simp
  have HXa := Lib.hid hXa
  have HZa := Lib.hid hZa
  have HBa := Lib.hid hBa
  have hPc := implParallelClasses_c wa p hp A n c R xss (hr.below hBa) hn hw hz
  have HWa := Lib.hid hwa
  by_cases h0 : pcC p xss = 0
  rotate_left
  · have h1 : cpC p xss = pcC p xss := if_neg h0
    have h2 : ¬ cpC p xss = 0 := by omega
    rw [show cpP p xss = 0 from if_neg h2, show cpX p xss = [] from if_neg h2, h1]
    have hne : (pcC p xss != 0) = true := by simp; exact h0
    have HPc := Lib.hid hPc
    generalize pcC p xss = cd at *
    generalize pcX p xss = C at *
    clear hwa hXa hZa hBa hr hn hp hw hz hPc h0 h1 h2
    go_enter Try.func30, Try.ntmps30
    go_wp2_with fail
    rw [← HWa.out]
    refine (HPc.out).mono ?_
    rintro e w2 ⟨⟨A2, n2, c2, R2, rfl, hn2, ho2⟩, hb2⟩
    have HZ2 := Lib.hid (HZa.out.step (lo := wa.heap.size) (by omega) hb2)
    have HB2 := Lib.hid (HBa.out.trans (hb2.mono HBa.out.size))
    clear hb2 ho2 hn2
    have rz := HZ2.out
    have z0 := rz.c0
    have z1 := rz.c1
    have y0 := rz.f0
    have y1 := rz.f1
    clear rz
    go_wp2
    obtain ⟨r0, r1⟩ := HZ2.out.read (.int .i64 0) (.slice none 0 0)
    refine bodyPost_ret (v := .tuple #[.agg #[.int .i64 0, .slice none 0 0], .int .i64 cd]) (by simp [results, Try.results30, go_sem, r0, r1]) rfl ⟨⟨none, 0, 0, fun _ => (none, 0), rfl, rfl, OwnM.nil_ _ _ _⟩, below_set2 HB2.out (by omega)⟩
  rw [h0] at hPc
  obtain ⟨P, rfl, hD, hK, hI, hX⟩ := pc_facts h0
  rw [hX] at hPc
  have hok := clsTo_ok hI (Nat.le_refl _)
  have hmany := hok.many hI
  have hP32 : P ≤ 32 := by have := hD.1.2; omega
  have hK32 : (row xss 0).length ≤ 1024 := by have := hI.sq; have := hI.two; have h3 := Nat.le_mul_of_pos_left (row xss 0).length (show 0 < (row xss 0).length by omega); omega
  by_cases h32 : 32 < (P : Int) + affI (P : Int) xss + 1
  · have h1 : cpC (P : Int) xss = 2 := (if_pos h0).trans (if_pos h32)
    have h2 : ¬ cpC (P : Int) xss = 0 := by omega
    rw [show cpP (P : Int) xss = 0 from if_neg h2, show cpX (P : Int) xss = [] from if_neg h2, h1]
    rw [hK] at h32
    have HPc := Lib.hid hPc
    generalize clsTo P xss xss.length = C at *
    generalize (row xss 0).length = K at *
    have HMa := Lib.hid hmany
    clear hwa hXa hZa hBa hr hn hp hw hz hPc h0 h1 h2 hD hK hI hX hok hmany
    go_enter Try.func30, Try.ntmps30
    go_wp2_with fail
    rw [← HWa.out]
    refine (HPc.out).mono ?_
    rintro e w2 ⟨⟨A2, n2, c2, R2, rfl, hn2, ho2⟩, hb2⟩
    have HZ2 := Lib.hid (HZa.out.step (lo := wa.heap.size) (by omega) hb2)
    have HB2 := Lib.hid (HBa.out.trans (hb2.mono HBa.out.size))
    have hc0 := (HXa.out.below hb2).c0
    have hnk : n2 = K + 1 := by rw [← hn2]; exact HMa.out
    have hd1 : decide (32 < (P : Int) + (n2 : Int)) = true := by simp; omega
    have hd2 : 32 < (P : Int) + (n2 : Int) := by omega
    have hwr : IntKind.i64.wrap ((P : Int) + (n2 : Int)) = (P : Int) + (n2 : Int) := IntWalk.i64_in _ (by omega)
    clear hb2 ho2 hn2 h32
    go_wp2
    go_quiet ((go_at_call 56; first | (with_reducible exact quiet_drN (sizeS_c _ _ _ _)) | (with_reducible exact quiet_dr (sizeS_c _ _ _ _)) | (with_reducible exact quiet_w2 (sizeS_c _ _ _ _))))
    have HZ3 := Lib.hid (HZ2.out.drewN nq)
    have HB3 := Lib.hid (below_drewN HB2.out nq)
    generalize w2.drewN nq = w3 at *
    clear hc0
    have rz := HZ3.out
    have z0 := rz.c0
    have z1 := rz.c1
    have y0 := rz.f0
    have y1 := rz.f1
    clear rz
    go_wp2
    obtain ⟨r0, r1⟩ := HZ3.out.read (.int .i64 0) (.slice none 0 0)
    refine bodyPost_ret (v := .tuple #[.agg #[.int .i64 0, .slice none 0 0], .int .i64 2]) (by simp [results, Try.results30, go_sem, r0, r1]) rfl ⟨⟨none, 0, 0, fun _ => (none, 0), rfl, rfl, OwnM.nil_ _ _ _⟩, below_set2 HB3.out (by omega)⟩
  have h1 : cpC (P : Int) xss = 0 := (if_pos h0).trans (if_neg h32)
  obtain ⟨P', K, e0, _, hK', hI', h32', _, hn30, hrow, hK2, hX', hP', _⟩ := cp_facts h1
  obtain rfl : P = P' := by omega
  rw [hX', hP', h1]
  obtain rfl : (row xss 0).length = K := by omega
  clear hX' hP' hI' hK' e0 h32 hX
  have hL : ∀ r ∈ cpL P xss (clsTo P xss xss.length), r.length = (row xss 0).length + 1 := fun r h => cpL_row hrow hmany h
  have hLl := cpL_len P xss (clsTo P xss xss.length)
  have HFull := Lib.hid (cpM_full hok)
  have HDef := Lib.hid (show cpL P xss (clsTo P xss xss.length) = (List.range xss.length).map (cpG P xss (clsTo P xss xss.length)) ++ [lsX P (clsTo P xss xss.length).length] from rfl)
  have HSo := Lib.hid (fun (W : World) (A : Option Addr) (s c : Nat) (R : Spine) (hr : RdM W A c R (cpL P xss (clsTo P xss xss.length))) (hs : (cpL P xss (clsTo P xss xss.length)).length = s) => by
    have hl : (cpL P xss (clsTo P xss xss.length)).length ≤ 128 := by omega
    have := sorted_c W ((P : Int) + ((row xss 0).length : Int) + 1) A s c R (cpL P xss (clsTo P xss xss.length)) hr hs (by omega) (fun k hk => by rw [row_eq (by omega), hL _ (List.getElem_mem _)]; omega)
    rwa [show mkP ((P : Int) + ((row xss 0).length : Int) + 1) (cpL P xss (clsTo P xss xss.length)) = (P : Int) + ((row xss 0).length : Int) + 1 from if_pos hl, show mkL (cpL P xss (clsTo P xss xss.length)) = sortLL (cpL P xss (clsTo P xss xss.length)) from if_pos hl, show mkC (cpL P xss (clsTo P xss xss.length)) = 0 from if_pos hl] at this)
  have HZe := Lib.hid (cpM_zero hok)
  have HLn := Lib.hid (fun (c : Nat) (hc : c < (clsTo P xss xss.length).length) => hok.len hI hc)
  have HOk := Lib.hid hok
  have HMa := Lib.hid hmany
  have HRw := Lib.hid hrow
  have HPc := Lib.hid hPc
  have HR := Lib.hid hr
  have HN := Lib.hid hn
  have hn128 : n ≤ 30 := by omega
  have hn0 : 0 < n := by have := hok.blocks hI; have h9 := Nat.mul_pos (show 0 < (row xss 0).length + 1 by omega) (show 0 < (row xss 0).length by omega); omega
  generalize sortLL (cpL P xss (clsTo P xss xss.length)) = lst at *
  generalize cpL P xss (clsTo P xss xss.length) = cpl at *
  generalize clsTo P xss xss.length = C at *
  generalize (row xss 0).length = K at *
  clear hwa hXa hZa hBa hr hn hp hw hz hPc h0 h1 hD hK hI hok hmany hL hLl hrow
  go_enter Try.func30, Try.ntmps30
  go_wp2_with fail
  rw [← HWa.out]
  refine (HPc.out).mono ?_
  rintro e w2 ⟨⟨A2, n2, c2, R2, rfl, hn2, ho2⟩, hb2⟩
  have HZ2 := Lib.hid (HZa.out.step (lo := wa.heap.size) (by omega) hb2)
  have HX2 := Lib.hid (HXa.out.below hb2)
  have HB2 := Lib.hid (HBa.out.trans (hb2.mono HBa.out.size))
  have hs2 : w.heap.size + 2 ≤ w2.heap.size := by have := hb2.size; omega
  have hc0 := (HXa.out.below hb2).c0
  have hnk : n2 = K + 1 := by rw [← hn2]; exact HMa.out
  have hpb : P + n2 ≤ 32 := by omega
  have HNk := Lib.hid hnk
  have hd1 : decide (32 < (P : Int) + (n2 : Int)) = false := by simp; omega
  have hd2 : ¬ 32 < (P : Int) + (n2 : Int) := by omega
  have hwr : IntKind.i64.wrap ((P : Int) + (n2 : Int)) = (P : Int) + (n2 : Int) := IntWalk.i64_in _ (by omega)
  have HO2 := Lib.hid ho2
  have HN2 := Lib.hid hn2
  clear hb2 ho2 hn2 hnk
  go_wp2
  go_quiet ((go_at_call 56; first | (with_reducible exact quiet_drN (sizeS_c _ _ _ _)) | (with_reducible exact quiet_dr (sizeS_c _ _ _ _)) | (with_reducible exact quiet_w2 (sizeS_c _ _ _ _))))
  have HZ2 := Lib.hid (HZ2.out.drewN nq)
  have HX2 := Lib.hid (HX2.out.drewN nq)
  have HB2 := Lib.hid (below_drewN HB2.out nq)
  have HO2 := Lib.hid (HO2.out.drewN nq)
  have hs2 : w.heap.size + 2 ≤ (w2.drewN nq).heap.size := hs2
  generalize w2.drewN nq = w2 at *
  clear hc0
  have hc1 := HX2.out.c1
  go_wp2_with fail
  refine (copyLists_c w2 A n c R xss (HR.out.below HB2.out) HN.out (by omega) (fun k hk => by rw [HRw.out k (by have := HN.out; omega)]; omega)).mono ?_
  rintro e w3 ⟨⟨A3, n3, c3, R3, rfl, hn3, ho3⟩, hb3⟩
  obtain rfl : n3 = n := by rw [← hn3]; exact HN.out
  have HZ3 := Lib.hid (HZ2.out.step (lo := w2.heap.size) (by omega) hb3)
  have HX3 := Lib.hid (HX2.out.below hb3)
  have HO3 := Lib.hid ho3
  have HB3 := Lib.hid hb3
  obtain ⟨G, eG, hG, _, _, _⟩ := ho3.at_ (k := 0) (by omega)
  subst eG
  clear hb3 ho3 hn3 hc1
  have hGs := HB3.out.size
  have HE0 := Lib.hid (show OwnM w3 w2.heap.size (some ⟨G, 0, none⟩) c3 R3 (cpM P xss C 0 0) from by rw [HZe.out]; exact HO3.out)
  have HCm := Lib.hid (show ∀ c i, (cpM P xss C c i).length = n3 from fun c i => by rw [cpM_len]; exact HN.out)
  go_wp2
  go_loopw [8, 36] (fun o v wr => ∃ (c : Nat) (Al : Option Addr) (cl : Nat) (R' : Spine), c ≤ n2 ∧ v = .int .i64 c ∧ o = .slice Al c cl ∧ Hid (OwnM wr w2.heap.size (some ⟨G, 0, none⟩) c3 R' (cpM P xss C c 0)) ∧ Hid (OwnI wr w2.heap.size Al cl (lsX P c)) ∧ Hid (∀ k, k < n3 → ∀ g, (R' k).1 = some ⟨g, 0, none⟩ → Al ≠ some ⟨g, 0, none⟩) ∧ Hid (Below w2.heap.size w2 wr)) (fun _ v _ => n2 - (intOf v).toNat)
  case atStart => exact ⟨0, _, _, _, Nat.zero_le _, rfl, rfl, HE0, Lib.hid (OwnI.nil_ _ _), Lib.hid (fun k _ g _ e => by cases e), HB3⟩
  case round =>
    obtain ⟨c, Al, cl, R', hc, rfl, rfl, HO, HI, HAp, HB⟩ := hrel
    have hszr := HB.out.size
    by_cases hcn : c < n2
    · have hcC : c < C.length := by rw [HN2.out]; exact hcn
      obtain ⟨g2, eg2, _, hg2, hcc, _⟩ := HO2.out.at_ hcC
      subst eg2
      have hccr := (HB.out.cell (p := ⟨g2, c, none⟩) hg2).trans hcc
      have HRc := Lib.hid (HO2.out.rows c hcC).rd
      have hlen := HLn.out c hcC
      have hx3 := (HX2.out.step (lo := w2.heap.size) (by omega) HB.out)
      have hc0 := hx3.c0
      have hc00 : (0 : Int) ≤ (c : Int) := by omega
      have hc01 : (c : Int) < (n2 : Int) := by omega
      rw [hlen] at hccr
      have HLe := Lib.hid hlen
      have HXc := Lib.hid hcC
      clear hx3 hcc hlen hcC
      obtain ⟨wo, rfl⟩ : ∃ wo, wo = wr := ⟨_, rfl⟩
      go_wp2
      clear hc0 hccr
      go_loopw [47] (fun v wr => ∃ (i : Nat) (R' : Spine), i ≤ K ∧ v = .int .i64 i ∧ Hid (OwnM wr w2.heap.size (some ⟨G, 0, none⟩) c3 R' (cpM P xss C c i)) ∧ Hid (OwnI wr w2.heap.size Al cl (lsX P c)) ∧ Hid (∀ k, k < n3 → ∀ g, (R' k).1 = some ⟨g, 0, none⟩ → Al ≠ some ⟨g, 0, none⟩) ∧ Hid (Below w2.heap.size w2 wr)) (fun v _ => K - (intOf v).toNat)
      case atStart => exact ⟨0, _, Nat.zero_le _, rfl, HO, HI, HAp, HB⟩
      case round =>
        obtain ⟨i, R5, hi, rfl, HO5, HI5, HAp5, HB5⟩ := hrel
        have hszr5 := HB5.out.size
        by_cases hiK : i < K
        · have hil : i < (row C c).length := by rw [HLe.out]; exact hiK
          obtain ⟨b, off, e, hb, hcl⟩ := HRc.out.at_ i hil
          have hclr := (HB5.out.cell (p := ⟨b, off + i, none⟩) hb).trans hcl
          have hm := HOk.out.mem c HXc.out i hil
          rw [hm.1] at hclr
          have hst := cpM_step HOk.out HXc.out hil
          have hkn : cN C c i < n3 := by have := HN.out; omega
          have hkx : cN C c i < xss.length := hm.2
          have hlr := HRw.out _ hkx
          have HHead := HO5.out.head_ne HI5.out
          obtain ⟨kk, hkk⟩ : ∃ kk, kk = cN C c i := ⟨_, rfl⟩
          rw [← hkk] at hclr hst hkn hlr hkx
          have HX := Lib.hid (show kk < (cpM P xss C c i).length by rw [HCm.out]; exact hkn)
          obtain ⟨_, eg1, _, _, hcx, hfx⟩ := HO5.out.at_ HX.out
          injection eg1 with eg1
          injection eg1 with eg1
          subst eg1
          have HRx := Lib.hid (HO5.out.rows _ HX.out)
          rw [hst.1, hlr] at hcx
          have HNx := Lib.hid hst.2
          have HT := Lib.hid (show (row (cpM P xss C c i) kk).length = K by rw [hst.1]; exact hlr)
          have HRE := Lib.hid hst.1
          rw [e]
          have HO7 := Lib.hid (HO5.out.alloc (.cells #[.int .i64 ((P : Int) + (c : Int))] 2))
          have hix0 : (0 : Int) ≤ (kk : Int) := by omega
          have hix1 : (kk : Int) < (n3 : Int) := by omega
          have hi0 : (0 : Int) ≤ (i : Int) := by omega
          have hi1 : (i : Int) < (K : Int) := by omega
          have HApk := Lib.hid (HAp5.out kk hkn)
          clear hst hlr hm hcl hil hkx hkk e
          generalize row (cpM P xss C c i) kk = rx at *
          go_wp2_with (at_builtin; refine wpI_append rfl _ _ rfl w2.heap.size _ _ _ rx ((P : Int) + (c : Int)) wr.heap.size rfl rfl HT.out (HRx.out.alloc (.cells #[.int .i64 ((P : Int) + (c : Int))] 2)) (World.cell?_alloc_at _ _ _ _ rfl) (by omega) (by simp; omega) ?_; intro A7 c7 w7 ho7 hg7 ha7; obtain ⟨hcx7, hfx7⟩ := HO7.out.outer_at HX.out hg7)
          have HB7 := Lib.hid (show Below w2.heap.size w2 w7 from (HB5.out.alloc hszr5 (.cells #[.int .i64 ((P : Int) + (c : Int))] 2)).trans (below_blk (HRx.out.alloc (.cells #[.int .i64 ((P : Int) + (c : Int))] 2)) hg7 (Nat.le_refl _) (by simp; omega)))
          have hpr := HO7.out.put_row HX.out hg7 ho7 ha7
          have hI7 := (HI5.out.alloc (.cells #[.int .i64 ((P : Int) + (c : Int))] 2)).grown hg7 (fun g e e2 => by
            rcases HRx.out.form with ⟨e3, _⟩ | ⟨g', e3, _⟩
            · rw [e3] at e2; simp [blk] at e2
            · rw [e3, blk_some] at e2; injection e2 with e2; subst e2; exact HApk.out g' e3 e)
          have hI8 := hI7.setCell_other (p := ⟨G, kk, none⟩) (fun g e e2 => HHead (by rw [e, e2])) (.slice A7 (K + 1) c7)
          rw [List.length_append, HT.out] at hpr
          have HO8 := Lib.hid (show OwnM (w7.setCell ⟨G, kk, none⟩ (.slice A7 (K + 1) c7)) w2.heap.size (some ⟨G, 0, none⟩) _ (putS R5 kk A7 c7) (cpM P xss C c (i + 1)) from by rw [← HNx.out, ← HRE.out]; exact hpr)
          have HI8 := Lib.hid hI8
          have HB8 := Lib.hid (HB7.out.setCell (p := ⟨G, kk, none⟩) hG (.slice A7 (K + 1) c7))
          have HAp8 := Lib.hid (show ∀ k, k < n3 → ∀ g, (putS R5 kk A7 c7 k).1 = some ⟨g, 0, none⟩ → Al ≠ some ⟨g, 0, none⟩ from fun k hk g e e2 => by
            unfold putS at e
            by_cases e3 : k = kk
            · rw [if_pos e3] at e
              have e' : A7 = some ⟨g, 0, none⟩ := e
              rw [e', blk_some] at ha7
              rcases ha7 with h | h
              · rcases HRx.out.form with ⟨e4, _⟩ | ⟨g', e4, _⟩
                · rw [e4] at h; simp [blk] at h
                · rw [e4, blk_some] at h; injection h with h; subst h; exact HApk.out g e4 e2
              · injection h with h
                have := (HI5.out.lt e2).2
                simp at h; omega
            · rw [if_neg e3] at e
              exact HAp5.out k hk g e e2)
          clear hpr ho7 hg7 ha7 hI7 hI8 HHead
          go_wp2
          go_roundw
          case rel => exact ⟨i + 1, putS R5 kk A7 c7, by omega, by go_num, HO8, HI8, HAp8, HB8⟩
          case measure => simp [intOf]; omega
        · obtain rfl : i = K := by omega
          have HO8 := Lib.hid (show OwnM wr w2.heap.size (some ⟨G, 0, none⟩) c3 R5 (cpM P xss C (c + 1) 0) from by rw [← cpM_next HOk.out HXc.out, HLe.out]; exact HO5.out)
          have HO7 := Lib.hid (HO8.out.alloc (.cells #[.int .i64 ((P : Int) + (c : Int))] 2))
          have HNL := Lib.hid (lsX_succ P c)
          have HLx := Lib.hid (lsX_len P c)
          generalize lsX P c = lx at *
          go_wp2_with (at_builtin; refine wpI_append rfl _ _ rfl w2.heap.size _ _ _ lx ((P : Int) + (c : Int)) wr.heap.size rfl rfl HLx.out (HI5.out.alloc (.cells #[.int .i64 ((P : Int) + (c : Int))] 2)) (World.cell?_alloc_at _ _ _ _ rfl) (by omega) (by simp; omega) ?_; intro A7 c7 w7 ho7 hg7 ha7)
          have HB8 := Lib.hid (show Below w2.heap.size w2 w7 from (HB5.out.alloc hszr5 (.cells #[.int .i64 ((P : Int) + (c : Int))] 2)).trans (below_blk (HI5.out.alloc (.cells #[.int .i64 ((P : Int) + (c : Int))] 2)) hg7 (Nat.le_refl _) (by simp; omega)))
          have HO9 := Lib.hid (HO7.out.grown_other hg7 (fun g e e2 => by
            injection e with e
            injection e with e
            subst e
            rcases HI5.out.form with ⟨e3, _⟩ | ⟨g', e3, _⟩
            · rw [e3] at e2; simp [blk] at e2
            · rw [e3, blk_some] at e2; injection e2 with e2; subst e2; exact HO8.out.head_ne HI5.out e3) (fun k hk g e e2 => by
            rcases HI5.out.form with ⟨e3, _⟩ | ⟨g', e3, _⟩
            · rw [e3] at e2; simp [blk] at e2
            · rw [e3, blk_some] at e2; injection e2 with e2; subst e2; exact HAp5.out k (by rw [HCm.out] at hk; exact hk) g' e e3))
          have HI9 := Lib.hid (show OwnI w7 w2.heap.size A7 c7 (lsX P (c + 1)) from by rw [HNL.out]; exact ho7)
          have HAp9 := Lib.hid (show ∀ k, k < n3 → ∀ g, (R5 k).1 = some ⟨g, 0, none⟩ → A7 ≠ some ⟨g, 0, none⟩ from fun k hk g e e2 => by
            rw [e2, blk_some] at ha7
            rcases ha7 with h | h
            · rcases HI5.out.form with ⟨e4, _⟩ | ⟨g', e4, _⟩
              · rw [e4] at h; simp [blk] at h
              · rw [e4, blk_some] at h; injection h with h; subst h; exact HAp5.out k hk g e e4
            · injection h with h
              have := ((HO8.out.rows k (by rw [HCm.out]; exact hk)).lt e).2
              simp at h; omega)
          clear ho7 hg7 ha7
          go_wp2
          go_roundw
          case rel => exact ⟨c + 1, _, _, _, by omega, by go_num, rfl, HO9, HI9, HAp9, HB8⟩
          case measure => simp [intOf]; omega
    · obtain rfl : c = n2 := by omega
      have HOf := Lib.hid (show OwnM wr w2.heap.size (some ⟨G, 0, none⟩) c3 R' ((List.range xss.length).map (cpG P xss C)) from by rw [← HFull.out, HN2.out]; exact HO.out)
      have HDf := Lib.hid (show (List.range xss.length).map (cpG P xss C) ++ [lsX P c] = cpl from by rw [HDef.out, HN2.out])
      have HLf := Lib.hid (show ((List.range xss.length).map (cpG P xss C)).length = n3 from by rw [List.length_map, List.length_range]; exact HN.out)
      generalize (List.range xss.length).map (cpG P xss C) = bl at *
      have HLx := Lib.hid (lsX_len P c)
      have HIa := Lib.hid (HI.out.alloc (.cells #[.slice Al c cl] 52))
      have HOa := Lib.hid (HOf.out.alloc (.cells #[.slice Al c cl] 52))
      have HBa := Lib.hid (HB.out.alloc hszr (.cells #[.slice Al c cl] 52))
      have HApf := Lib.hid (fun (k : Nat) (hk : k < bl.length) => HAp.out k (by rw [← HLf.out]; exact hk))
      have hwr2 : IntKind.i64.wrap ((P : Int) + (c : Int)) = (P : Int) + (c : Int) := IntWalk.i64_in _ (by omega)
      go_wp2_with (at_builtin; refine wpM_append rfl _ _ rfl w2.heap.size _ _ _ R' bl Al c cl (lsX P c) wr.heap.size rfl rfl HLf.out HLx.out HOa.out HIa.out HApf.out (World.cell?_alloc_at _ _ _ _ rfl) (by omega) (by simp; omega) ?_; intro A5 c5 R5 w5 ho5 hg5 ha5; refine stopP ?_)
      have HB5 := Lib.hid (HBa.out.trans (below_blkM HOa.out hg5 (Nat.le_refl _) (by simp; omega)))
      rw [HDf.out] at ho5
      have HSk := Lib.hid (HSo.out w5 A5 (n3 + 1) c5 R5 ho5.rd (by rw [← HDf.out, List.length_append, HLf.out]; rfl))
      have HZ5 := Lib.hid (HZ2.out.step (lo := w2.heap.size) (by omega) HB5.out)
      have hsz5 := HB5.out.size
      have HBw := Lib.hid (HB2.out.trans (HB5.out.mono (by omega)))
      have hpk : (P : Int) + (K : Int) + 1 = (P : Int) + (c : Int) := by have := HNk.out; omega
      rw [hpk] at HSk
      have HPk := Lib.hid hpk
      clear ho5 hg5 ha5 hpk
      refine Lib.hid ?_
      go_wp2_with fail
      refine (HSk.out).mono ?_
      rintro e w9 ⟨⟨A9, n9, c9, R9, rfl, hn9, ho9⟩, hb9⟩
      have HZ9 := Lib.hid (HZ5.out.step (lo := w5.heap.size) (by omega) hb9)
      have HB9 := Lib.hid (HBw.out.trans (hb9.mono HBw.out.size))
      have HO9 := Lib.hid (show OwnM w9 (w.heap.size + 1 + 1) A9 c9 R9 lst from ho9.lower (by omega))
      have HN9 := Lib.hid hn9
      clear hb9 ho9 hn9
      have rz := HZ9.out
      have z0 := rz.c0
      have z1 := rz.c1
      have y0 := rz.f0
      have y1 := rz.f1
      clear rz
      go_wp2
      obtain ⟨r0, r1⟩ := HZ9.out.read (.int .i64 ((P : Int) + (c : Int))) (.slice A9 n9 c9)
      refine bodyPost_ret (v := .tuple #[.agg #[.int .i64 ((P : Int) + (c : Int)), .slice A9 n9 c9], .int .i64 0]) (by simp [results, Try.results30, go_sem, r0, r1]) rfl ⟨⟨A9, n9, c9, R9, by rw [HPk.out], HN9.out, own_set2 HO9.out (by omega) _ _⟩, below_set2 HB9.out (by omega)⟩
end Go.Proofs.Ytcdbbcnoleilfaa
