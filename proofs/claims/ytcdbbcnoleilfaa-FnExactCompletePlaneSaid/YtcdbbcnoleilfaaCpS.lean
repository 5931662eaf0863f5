/-
  CompletePlane of the reference. Conditions: those of each theorem.
-/
import Derived.Test.YtcdbbcnoleilfaaCpP
import Derived.Test.YtcdbbcnoleilfaaPcS
import Derived.Test.YtcdbbcnoleilfaaAppR
namespace Go.Proofs.Ytcdbbcnoleilfaa
open Go.RowKit
set_option linter.unusedVariables false
set_option linter.unusedSimpArgs false

theorem keepC {lo : Nat} {w w' : World} {q1 q2 q3 q4 q5 : Addr} {v1 v2 v3 v4 v5 : Option Value} (hb : Below lo w w') (h1 : q1.block < lo) (h2 : q2.block < lo) (h3 : q3.block < lo) (h4 : q4.block < lo) (h5 : q5.block < lo) (h : w.cell? q1 = v1 ∧ w.cell? q2 = v2 ∧ w.cell? q3 = v3 ∧ w.cell? q4 = v4 ∧ w.cell? q5 = v5) :
    w'.cell? q1 = v1 ∧ w'.cell? q2 = v2 ∧ w'.cell? q3 = v3 ∧ w'.cell? q4 = v4 ∧ w'.cell? q5 = v5 := ⟨(hb.cell h1).trans h.1, (hb.cell h2).trans h.2.1, (hb.cell h3).trans h.2.2.1, (hb.cell h4).trans h.2.2.2.1, (hb.cell h5).trans h.2.2.2.2⟩
theorem nilcap_rows {w : World} {lo : Nat} {A : Option Addr} {c n : Nat} {R : Spine} {xss : List (List Int)} (h : OwnM w lo A c R xss) (hn : xss.length = n) (hr : ∀ r ∈ xss, 0 < r.length) : NilCap R n := by
  have := nilCap_of_rows h.rd (fun k hk => by have := hr _ (show row xss k ∈ xss from by rw [row_eq hk]; exact List.getElem_mem hk); omega)
  rwa [hn] at this

set_option maxRecDepth 100000 in
set_option maxHeartbeats 16000000 in
theorem specCompletePlane_c (w : World) (p : Int) (hp : -9223372036854775808 ≤ p ∧ p ≤ 9223372036854775807) (A : Option Addr) (n c : Nat) (R : Spine) (xss : List (List Int)) (hr : RdM w A c R xss) (hn : xss.length = n) (hw : WfM xss) (hz : (n : Int) + (tot xss : Nat) ≤ 1048576) :
    Calls Try.prog 29 #[.agg #[.int .i64 p, .slice A n c]] w (PostDC w (cpP p xss) (cpX p xss) (cpC p xss)) := by
  clear hw hz
  have hzD := zeroD
  obtain ⟨wa, hwa⟩ : ∃ wa, wa = (w.alloc (.cells #[.int .i64 p, .slice A n c] 31)).alloc (.cells #[.int .i64 0, .slice none 0 0] 31) := ⟨_, rfl⟩
  have hXa : BoxD wa w.heap.size p A n c := by rw [hwa]; exact (BoxD.made _ _ _ _ _ _).below (below_boxed _ _)
  have hZa : RBox wa (w.heap.size + 1) := by
    rw [hwa]
    have := RBox.made (w.alloc (.cells #[.int .i64 p, .slice A n c] 31)) 31
    simpa using this
  have hBa : Below w.heap.size w wa := by rw [hwa]; exact (below_boxed _ _).alloc (by simp) _
  have hsa : w.heap.size + 2 ≤ wa.heap.size := by rw [hwa]; simp
  have HXa := Lib.hid hXa
  have HZa := Lib.hid hZa
  have HBa := Lib.hid hBa
  have hO := l10Ok_c wa w.heap.size A n c R xss p hXa (hr.below hBa) hn
  rw [hwa] at hO
  have HWa := Lib.hid hwa
  have HAf := Lib.hid (fun (W : World) (hb : Below w.heap.size w W) (hX : BoxD W w.heap.size p A n c) => l12Affine_c W w.heap.size p A n c R xss hX (hr.below hb) hn)
  rcases hd : dsgB p xss with _ | _
  · have h0 : pcC p xss = 1 := if_neg (by rw [hd]; simp)
    have h1 : cpC p xss = 1 := (if_neg (by omega)).trans h0
    have h2 : ¬ cpC p xss = 0 := by omega
    rw [show cpP p xss = 0 from if_neg h2, show cpX p xss = [] from if_neg h2, h1]
    rw [hd] at hO
    have HO := Lib.hid hO
    clear hO hwa hXa hZa hBa hr hn hp hd h0 h1 h2
    go_enter Try.func29, Try.ntmps29
    go_wp2_with fail
    refine (HO.out).mono ?_
    rintro e w' ⟨rfl, q, rfl⟩
    rw [← HWa.out]
    have HZ2 := Lib.hid (HZa.out.drewN q)
    have HB2 := Lib.hid (below_drewN HBa.out q)
    generalize wa.drewN q = w2 at *
    have rz := HZ2.out
    have z0 := rz.c0
    have z1 := rz.c1
    have y0 := rz.f0
    have y1 := rz.f1
    clear rz
    go_wp2
    obtain ⟨r0, r1⟩ := HZ2.out.read (.int .i64 0) (.slice none 0 0)
    refine bodyPost_ret (v := .tuple #[.agg #[.int .i64 0, .slice none 0 0], .int .i64 1]) (by simp [results, Try.results29, go_sem, r0, r1]) rfl ⟨⟨none, 0, 0, fun _ => (none, 0), rfl, rfl, OwnM.nil_ _ _ _⟩, below_set2 HB2.out (by omega)⟩
  rw [hd] at hO
  have HO := Lib.hid hO
  by_cases ha : affI p xss = 0
  · have h0 : pcC p xss = 6 := (if_pos hd).trans (if_pos ha)
    have h1 : cpC p xss = 6 := (if_neg (by omega)).trans h0
    have h2 : ¬ cpC p xss = 0 := by omega
    rw [show cpP p xss = 0 from if_neg h2, show cpX p xss = [] from if_neg h2, h1]
    rw [ha] at HAf
    clear hO hwa hXa hZa hBa hr hn hp hd h0 h1 h2 ha
    go_enter Try.func29, Try.ntmps29
    go_wp2_with fail
    refine (HO.out).mono ?_
    rintro e w' ⟨rfl, q, rfl⟩
    rw [← HWa.out]
    have HZ2 := Lib.hid (HZa.out.drewN q)
    have HX2 := Lib.hid (HXa.out.drewN q)
    have HB2 := Lib.hid (below_drewN HBa.out q)
    have hs2 : w.heap.size + 2 ≤ (wa.drewN q).heap.size := hsa
    generalize wa.drewN q = w2 at *
    go_wp2_with fail
    refine (HAf.out _ HB2.out HX2.out).mono ?_
    rintro e w3 ⟨rfl, hb3⟩
    have HZ3 := Lib.hid (HZ2.out.step (lo := w2.heap.size) (by omega) hb3)
    have HB3 := Lib.hid (HB2.out.trans (hb3.mono HB2.out.size))
    clear hb3
    have rz := HZ3.out
    have z0 := rz.c0
    have z1 := rz.c1
    have y0 := rz.f0
    have y1 := rz.f1
    clear rz
    go_wp2
    obtain ⟨r0, r1⟩ := HZ3.out.read (.int .i64 0) (.slice none 0 0)
    refine bodyPost_ret (v := .tuple #[.agg #[.int .i64 0, .slice none 0 0], .int .i64 6]) (by simp [results, Try.results29, go_sem, r0, r1]) rfl ⟨⟨none, 0, 0, fun _ => (none, 0), rfl, rfl, OwnM.nil_ _ _ _⟩, below_set2 HB3.out (by omega)⟩
  have h0 : pcC p xss = 0 := (if_pos hd).trans (if_neg ha)
  obtain ⟨P, rfl, hD, hK, hI, hX⟩ := pc_facts h0
  have hok := clsTo_ok hI (Nat.le_refl _)
  have hmany := hok.many hI
  have hP32 : P ≤ 32 := by have := hD.1.2; omega
  have hK2 := hI.two
  have hK32 : (row xss 0).length ≤ 1024 := by have := hI.sq; have h3 := Nat.le_mul_of_pos_left (row xss 0).length (show 0 < (row xss 0).length by omega); omega
  rw [hK] at HAf
  by_cases h32 : 32 < (P : Int) + affI (P : Int) xss + 1
  · have h1 : cpC (P : Int) xss = 2 := (if_pos h0).trans (if_pos h32)
    have h2 : ¬ cpC (P : Int) xss = 0 := by omega
    rw [show cpP (P : Int) xss = 0 from if_neg h2, show cpX (P : Int) xss = [] from if_neg h2, h1]
    rw [hK] at h32
    generalize (row xss 0).length = K at *
    have hK0 : ((K : Int) == 0) = false := by simp; omega
    have hd1 : decide (32 < (P : Int) + (K : Int) + 1) = true := by simp; omega
    clear hO hwa hXa hZa hBa hr hn hp hd h0 h1 h2 ha hD hK hI hX hok hmany
    go_enter Try.func29, Try.ntmps29
    go_wp2_with fail
    refine (HO.out).mono ?_
    rintro e w' ⟨rfl, q, rfl⟩
    rw [← HWa.out]
    have HZ2 := Lib.hid (HZa.out.drewN q)
    have HX2 := Lib.hid (HXa.out.drewN q)
    have HB2 := Lib.hid (below_drewN HBa.out q)
    have hs2 : w.heap.size + 2 ≤ (wa.drewN q).heap.size := hsa
    generalize wa.drewN q = w2 at *
    go_wp2_with fail
    refine (HAf.out _ HB2.out HX2.out).mono ?_
    rintro e w3 ⟨rfl, hb3⟩
    have HZ3 := Lib.hid (HZ2.out.step (lo := w2.heap.size) (by omega) hb3)
    have HB3 := Lib.hid (HB2.out.trans (hb3.mono HB2.out.size))
    have hc0 := (HX2.out.below hb3).c0
    clear hb3
    have rz := HZ3.out
    have z0 := rz.c0
    have z1 := rz.c1
    have y0 := rz.f0
    have y1 := rz.f1
    clear rz
    go_wp2
    obtain ⟨r0, r1⟩ := HZ3.out.read (.int .i64 0) (.slice none 0 0)
    refine bodyPost_ret (v := .tuple #[.agg #[.int .i64 0, .slice none 0 0], .int .i64 2]) (by simp [results, Try.results29, go_sem, r0, r1]) rfl ⟨⟨none, 0, 0, fun _ => (none, 0), rfl, rfl, OwnM.nil_ _ _ _⟩, below_set2 HB3.out (by omega)⟩
  have h1 : cpC (P : Int) xss = 0 := (if_pos h0).trans (if_neg h32)
  obtain ⟨P', K, e0, _, hK', hI', h32', _, hn30, hrow, _, hX', hP', _⟩ := cp_facts h1
  obtain rfl : P = P' := by omega
  rw [hX', hP', h1]
  obtain rfl : (row xss 0).length = K := by omega
  clear hX' hP' hI' hK' e0 h32 hX
  have hL : ∀ r ∈ cpL P xss (clsTo P xss xss.length), r.length = (row xss 0).length + 1 := fun r h => cpL_row hrow hmany h
  have hLl := cpL_len P xss (clsTo P xss xss.length)
  have hPerm : (cqC P xss (clsTo P xss xss.length) (clsTo P xss xss.length).length ++ [lsX P (clsTo P xss xss.length).length]).Perm (cpL P xss (clsTo P xss xss.length)) := (cqC_perm hok).append (List.Perm.refl _)
  have hLen9 : (cqC P xss (clsTo P xss xss.length) (clsTo P xss xss.length).length ++ [lsX P (clsTo P xss xss.length).length]).length ≤ 128 := by rw [hPerm.length_eq]; omega
  have HSo := Lib.hid (fun (W : World) (lo : Nat) (A : Option Addr) (s c : Nat) (R : Spine) (hr : OwnM W lo A c R (cqC P xss (clsTo P xss xss.length) (clsTo P xss xss.length).length ++ [lsX P (clsTo P xss xss.length).length])) (hs : (cqC P xss (clsTo P xss xss.length) (clsTo P xss xss.length).length ++ [lsX P (clsTo P xss xss.length).length]).length = s) => by
    have hrl : ∀ r ∈ cqC P xss (clsTo P xss xss.length) (clsTo P xss xss.length).length ++ [lsX P (clsTo P xss xss.length).length], r.length = (row xss 0).length + 1 := fun r h => hL r (hPerm.mem_iff.1 h)
    have := l10Sort_c W A s c R _ hr.rd hs (nilcap_rows hr hs (fun r h => by rw [hrl r h]; omega)) (by omega) (fun k hk => by rw [row_eq (by omega), hrl _ (List.getElem_mem _)]; omega)
    rwa [sortLL_perm' hPerm] at this)
  have HLn := Lib.hid (fun (c : Nat) (hc : c < (clsTo P xss xss.length).length) => hok.len hI hc)
  have HPc := Lib.hid (fun (W : World) (hb : Below w.heap.size w W) (hX : BoxD W w.heap.size (P : Int) A n c) => by have := l12Classes_c W w.heap.size P _ A n c R xss hX (hr.below hb) hn hD hI; rwa [← hn] at this)
  have HOk := Lib.hid hok
  have HMa := Lib.hid hmany
  have HRw := Lib.hid hrow
  have HR := Lib.hid hr
  have HN := Lib.hid hn
  have hn128 : n ≤ 30 := by omega
  have hn0 : 0 < n := by have := hok.blocks hI; have h9 := Nat.mul_pos (show 0 < (row xss 0).length + 1 by omega) (show 0 < (row xss 0).length by omega); omega
  generalize sortLL (cpL P xss (clsTo P xss xss.length)) = lst at *
  generalize cpL P xss (clsTo P xss xss.length) = cpl at *
  generalize clsTo P xss xss.length = C at *
  generalize (row xss 0).length = K at *
  have hK0 : ((K : Int) == 0) = false := by simp; omega
  have hd1 : decide (32 < (P : Int) + (K : Int) + 1) = false := by simp; omega
  clear hO hwa hXa hZa hBa hr hn hp hd h0 h1 ha hD hK hI hok hmany hL hLl hrow hPerm hLen9
  go_enter Try.func29, Try.ntmps29
  go_wp2_with fail
  refine (HO.out).mono ?_
  rintro e w' ⟨rfl, q, rfl⟩
  rw [← HWa.out]
  have HZ2 := Lib.hid (HZa.out.drewN q)
  have HX2 := Lib.hid (HXa.out.drewN q)
  have HB2 := Lib.hid (below_drewN HBa.out q)
  have hs2 : w.heap.size + 2 ≤ (wa.drewN q).heap.size := hsa
  generalize wa.drewN q = w2 at *
  go_wp2_with fail
  refine (HAf.out _ HB2.out HX2.out).mono ?_
  rintro e w3 ⟨rfl, hb3⟩
  have HZ3 := Lib.hid (HZ2.out.step (lo := w2.heap.size) (by omega) hb3)
  have HX3 := Lib.hid (HX2.out.below hb3)
  have HB3 := Lib.hid (HB2.out.trans (hb3.mono HB2.out.size))
  have hc0 := HX3.out.c0
  have hs3 : w.heap.size + 2 ≤ w3.heap.size := by have := hb3.size; omega
  clear hb3
  go_wp2_with fail
  refine (HPc.out _ HB3.out HX3.out).mono ?_
  rintro e w4 ⟨⟨A4, n4, c4, R4, rfl, hn4, ho4⟩, hb4⟩
  have HZ4 := Lib.hid (HZ3.out.step (lo := w3.heap.size) (by omega) hb4)
  have HX4 := Lib.hid (HX3.out.below hb4)
  have HB4 := Lib.hid (HB3.out.trans (hb4.mono HB3.out.size))
  have HO4 := Lib.hid ho4
  have HN4 := Lib.hid hn4
  have HNk := Lib.hid (show n4 = K + 1 by rw [← hn4]; exact HMa.out)
  have hpb : P + n4 ≤ 32 := by have := HNk.out; omega
  have hs4 : w.heap.size + 2 ≤ w4.heap.size := by have := hb4.size; omega
  clear hb4 ho4 hn4 hc0
  have HE0 := Lib.hid ((OwnM.lit0 w4 (Nat.le_refl w4.heap.size) (fun _ => (none, 0))).alloc (.cells #[] 2))
  have HI0 := Lib.hid (show OwnI ((w4.alloc (.cells #[] 52)).alloc (.cells #[] 2)) w4.heap.size (some ⟨w4.heap.size + 1, 0, none⟩) 0 (lsX P 0) from by
    rw [show lsX P 0 = [] from rfl]
    have := OwnI.lit0 (w4.alloc (.cells #[] 52)) (show w4.heap.size ≤ (w4.alloc (.cells #[] 52)).heap.size by simp)
    simpa using this)
  have HEb0 := Lib.hid (((Below.refl w4.heap.size w4).alloc (Nat.le_refl _) (.cells #[] 52)).alloc (by simp) (.cells #[] 2))
  go_wp2
  obtain ⟨cO, rfl⟩ : ∃ cO, cO = c := ⟨_, rfl⟩
  go_loopw [6, 7, 8, 9] (fun o l v _ wr => ∃ (c s : Nat) (A' : Option Addr) (c' : Nat) (R' : Spine) (Al : Option Addr) (cl : Nat), c ≤ n4 ∧ v = .int .i64 c ∧ o = .slice A' s c' ∧ l = .slice Al c cl ∧ Hid ((cqC P xss C c).length = s) ∧ s ≤ 1024 * c ∧ Hid (OwnM wr w4.heap.size A' c' R' (cqC P xss C c)) ∧ Hid (OwnI wr w4.heap.size Al cl (lsX P c)) ∧ Hid (∀ k, k < s → ∀ g, (R' k).1 = some ⟨g, 0, none⟩ → Al ≠ some ⟨g, 0, none⟩) ∧ Hid (Below w4.heap.size w4 wr)) (fun _ _ v _ _ => n4 - (intOf v).toNat)
  case atStart => exact ⟨0, 0, _, _, _, _, _, Nat.zero_le _, rfl, rfl, rfl, Lib.hid rfl, Nat.zero_le _, HE0, HI0, Lib.hid (fun k hk => absurd hk (by omega)), HEb0⟩
  case round =>
    obtain ⟨c, s, A', c', R', Al, cl, hc, rfl, rfl, rfl, HS, hs, HO, HI, HAp, HB⟩ := hrel
    have hszr := HB.out.size
    by_cases hcn : c < n4
    · have hcC : c < C.length := by rw [HN4.out]; exact hcn
      obtain ⟨g2, eg2, _, hg2, hcc, _⟩ := HO4.out.at_ hcC
      subst eg2
      have hlen := HLn.out c hcC
      rw [hlen] at hcc
      have HCc := Lib.hid hcc
      have HRc := Lib.hid (HO4.out.rows c hcC).rd
      have HLe := Lib.hid hlen
      have HXc := Lib.hid hcC
      have hc00 : (0 : Int) ≤ (c : Int) := by omega
      have hc01 : (c : Int) < (n4 : Int) := by omega
      have HCZ := Lib.hid (show cqC P xss C c ++ cqI P xss C c 0 = cqC P xss C c by simp [cqI])
      clear hcc hlen hcC
      obtain ⟨wo, rfl⟩ : ∃ wo, wo = wr := ⟨_, rfl⟩
      go_wp2
      go_loopw [6, 9] (fun o v wr => ∃ (i s2 : Nat) (A' : Option Addr) (c' : Nat) (R' : Spine), i ≤ K ∧ v = .int .i64 i ∧ o = .slice A' s2 c' ∧ Hid ((cqC P xss C c ++ cqI P xss C c i).length = s2) ∧ s2 ≤ s + i ∧ Hid (OwnM wr w4.heap.size A' c' R' (cqC P xss C c ++ cqI P xss C c i)) ∧ Hid (OwnI wr w4.heap.size Al cl (lsX P c)) ∧ Hid (∀ k, k < s2 → ∀ g, (R' k).1 = some ⟨g, 0, none⟩ → Al ≠ some ⟨g, 0, none⟩) ∧ Hid (Below w4.heap.size w4 wr)) (fun _ v _ => K - (intOf v).toNat)
      case atStart => exact ⟨0, s, _, _, _, Nat.zero_le _, rfl, rfl, Lib.hid (by rw [HCZ.out]; exact HS.out), by omega, Lib.hid (by rw [HCZ.out]; exact HO.out), HI, HAp, HB⟩
      case round =>
        obtain ⟨i, s2, A5, c5, R5, hi, rfl, rfl, HS5, hs5, HO5, HI5, HAp5, HB5⟩ := hrel
        have hszr5 := HB5.out.size
        have hccr := (HB5.out.cell (p := ⟨g2, c, none⟩) hg2).trans HCc.out
        by_cases hiK : i < K
        · have hil : i < (row C c).length := by rw [HLe.out]; exact hiK
          obtain ⟨b, off, e, hb, hcl⟩ := HRc.out.at_ i hil
          have hclr := (HB5.out.cell (p := ⟨b, off + i, none⟩) hb).trans hcl
          have hm := HOk.out.mem c HXc.out i hil
          rw [hm.1] at hclr
          have hkx : cN C c i < xss.length := hm.2
          have HSu := Lib.hid (cqI_succ (P := P) (xss := xss) (C := C) c i)
          have hlr := HRw.out _ hkx
          obtain ⟨kk, hkk⟩ : ∃ kk, kk = cN C c i := ⟨_, rfl⟩
          rw [← hkk] at hclr hkx hlr
          rw [← hkk] at HSu
          obtain ⟨b3, off3, e3, hb3, hcl3⟩ := HR.out.at_ kk hkx
          have HBw := Lib.hid (HB4.out.trans (HB5.out.mono (by omega)))
          have hckr := (HBw.out.cell (p := ⟨b3, off3 + kk, none⟩) hb3).trans hcl3
          rw [hlr] at hckr
          have hx5 := HX4.out.step (lo := w4.heap.size) (by omega) HB5.out
          have hc0 := hx5.c0
          have hc1 := hx5.c1
          have HRk := Lib.hid (HR.out.rows kk hkx)
          rw [e] at hccr
          subst e3
          have hkn : kk < n := by have := HN.out; omega
          have hix0 : (0 : Int) ≤ (kk : Int) := by omega
          have hix1 : (kk : Int) < (n : Int) := by omega
          have hi0 : (0 : Int) ≤ (i : Int) := by omega
          have hi1 : (i : Int) < (K : Int) := by omega
          have HLr := Lib.hid hlr
          have hwr : IntKind.i64.wrap ((P : Int) + (c : Int)) = (P : Int) + (c : Int) := IntWalk.i64_in _ (by omega)
          have HOw := Lib.hid (fun (W : World) (hb : Below wr.heap.size wr W) => l00Own_c W (R kk).1 K (R kk).2 (row xss kk) (HRk.out.below (HBw.out.trans (hb.mono (by have := HB4.out.size; omega)))) HLr.out (fun ea => by
            obtain ⟨b', off', e', _⟩ := HRk.out.at_ 0 (by rw [HLr.out]; omega)
            rw [e'] at ea; cases ea) (by omega))
          have hbd : Below wr.heap.size wr wr.drew := (Below.refl _ _).drew
          have hbz : Below wr.heap.size wr ((wr.alloc (.cells #[.int .i64 ((P : Int) + (c : Int))] 2)).drew) := ((Below.refl _ _).alloc (Nat.le_refl _) _).drew
          have hq1 : w.heap.size < w4.heap.size := by omega
          have hq4 : b3 < w4.heap.size := by have := HB4.out.size; omega
          have HSof := Lib.hid (fun (W : World) (hbb : Below w4.heap.size wr W) => keepC hbb hq1 hq1 hg2 hb hq4 ⟨hc0, hc1, hccr, hclr, hckr⟩)
          clear hcl hcl3 hm hil hkx hkk hx5 hlr e
          have hrx : (row xss kk).length ≤ 1024 := by rw [HLr.out]; omega
          generalize row xss kk = rx at *
          go_wp2
          refine wp_region_noPanic ?_
          refine wp_region_held_drew (S := (fun w' => w'.cell? ⟨w.heap.size, 0, none⟩ = some (.int .i64 (P : Int)) ∧ w'.cell? ⟨w.heap.size, 1, none⟩ = some (.slice (some ⟨b3, off3, none⟩) n cO) ∧ w'.cell? ⟨g2, c, none⟩ = some (.slice (some ⟨b, off, none⟩) K (R4 c).2) ∧ w'.cell? ⟨b, off + i, none⟩ = some (.int .i64 (kk : Int)) ∧ w'.cell? ⟨b3, off3 + kk, none⟩ = some (.slice (R kk).1 K (R kk).2))) (by kernel_rfl) (HSof.out _ (hbd.mono hszr5)) (fun hHeld => ?_)
          refine wpAnyH_take (i := 0) (v := ?_) rfl (by kernel_rfl) (by kernel_rfl) (by kernel_rfl) (fun _ _ _ h => h) (Or.inl ⟨by rfl, ?_⟩) hHeld ?_
          rotate_left
          · (intro w hSw; (try dsimp only at hSw); (go_simp <;> with_reducible rfl))
          try simp only [Act.put, List.getElem_toArray, List.getElem_cons_succ, List.getElem_cons_zero, List.setIfInBounds_toArray, List.set_cons_zero, List.set_cons_succ]
          refine wpAnyH_take (i := 1) (v := ?_) rfl (by kernel_rfl) (by kernel_rfl) (by kernel_rfl) (fun _ _ _ h => h) (Or.inl ⟨by rfl, ?_⟩) hHeld ?_
          rotate_left
          · (intro w hSw; (try dsimp only at hSw); (go_simp <;> with_reducible rfl))
          try simp only [Act.put, List.getElem_toArray, List.getElem_cons_succ, List.getElem_cons_zero, List.setIfInBounds_toArray, List.set_cons_zero, List.set_cons_succ]
          refine wpAnyH_take (i := 2) (v := ?_) rfl (by kernel_rfl) (by kernel_rfl) (by kernel_rfl) (fun _ _ _ h => h) (Or.inl ⟨by rfl, ?_⟩) hHeld ?_
          rotate_left
          · (intro w hSw; (try dsimp only at hSw); (go_simp <;> with_reducible rfl))
          try simp only [Act.put, List.getElem_toArray, List.getElem_cons_succ, List.getElem_cons_zero, List.setIfInBounds_toArray, List.set_cons_zero, List.set_cons_succ]
          refine wpAnyH_take (i := 3) (v := ?_) rfl (by kernel_rfl) (by kernel_rfl) (by kernel_rfl) (fun _ _ _ h => h) (Or.inl ⟨by rfl, ?_⟩) hHeld ?_
          rotate_left
          · (intro w hSw; (try dsimp only at hSw); (go_simp <;> with_reducible rfl))
          try simp only [Act.put, List.getElem_toArray, List.getElem_cons_succ, List.getElem_cons_zero, List.setIfInBounds_toArray, List.set_cons_zero, List.set_cons_succ]
          refine wpAnyH_take (i := 4) (v := ?_) rfl (by kernel_rfl) (by kernel_rfl) (by kernel_rfl) (fun _ _ _ h => h) (Or.inl ⟨by rfl, ?_⟩) hHeld ?_
          rotate_left
          · (intro w hSw; (try dsimp only at hSw); (go_simp <;> with_reducible rfl))
          try simp only [Act.put, List.getElem_toArray, List.getElem_cons_succ, List.getElem_cons_zero, List.setIfInBounds_toArray, List.set_cons_zero, List.set_cons_succ]
          refine wpAnyH_take (i := 5) (v := ?_) rfl (by kernel_rfl) (by kernel_rfl) (by kernel_rfl) (fun _ _ _ h => h) (Or.inl ⟨by rfl, ?_⟩) hHeld ?_
          rotate_left
          · (intro w hSw; (try dsimp only at hSw); (go_simp <;> with_reducible rfl))
          try simp only [Act.put, List.getElem_toArray, List.getElem_cons_succ, List.getElem_cons_zero, List.setIfInBounds_toArray, List.set_cons_zero, List.set_cons_succ]
          refine wpAnyH_take (i := 6) (v := ?_) rfl (by kernel_rfl) (by kernel_rfl) (by kernel_rfl) (fun _ _ _ h => h) (Or.inl ⟨by rfl, ?_⟩) hHeld ?_
          rotate_left
          · (intro w hSw; (try dsimp only at hSw); (go_simp <;> with_reducible rfl))
          try simp only [Act.put, List.getElem_toArray, List.getElem_cons_succ, List.getElem_cons_zero, List.setIfInBounds_toArray, List.set_cons_zero, List.set_cons_succ]
          refine wpAnyH_take (i := 7) (v := ?_) rfl (by kernel_rfl) (by kernel_rfl) (by kernel_rfl) (fun _ _ _ h => h) (Or.inl ⟨by rfl, ?_⟩) hHeld ?_
          rotate_left
          · (intro w hSw; (try dsimp only at hSw); (go_simp <;> with_reducible rfl))
          try simp only [Act.put, List.getElem_toArray, List.getElem_cons_succ, List.getElem_cons_zero, List.setIfInBounds_toArray, List.set_cons_zero, List.set_cons_succ]
          refine wpAnyH_take (i := 8) (v := ?_) rfl (by kernel_rfl) (by kernel_rfl) (by kernel_rfl) (fun _ _ _ h => h) (Or.inl ⟨by rfl, ?_⟩) hHeld ?_
          rotate_left
          · (intro w hSw; (try dsimp only at hSw); (go_simp <;> with_reducible rfl))
          try simp only [Act.put, List.getElem_toArray, List.getElem_cons_succ, List.getElem_cons_zero, List.setIfInBounds_toArray, List.set_cons_zero, List.set_cons_succ]
          refine wpAnyH_take (i := 9) (v := ?_) rfl (by kernel_rfl) (by kernel_rfl) (by kernel_rfl) (fun _ _ _ h => h) (Or.inl ⟨by rfl, ?_⟩) hHeld ?_
          rotate_left
          · (intro w hSw; (try dsimp only at hSw); (go_simp <;> with_reducible rfl))
          try simp only [Act.put, List.getElem_toArray, List.getElem_cons_succ, List.getElem_cons_zero, List.setIfInBounds_toArray, List.set_cons_zero, List.set_cons_succ]
          refine wpAnyH_take (i := 10) (v := ?_) rfl (by kernel_rfl) (by kernel_rfl) (by kernel_rfl) (fun _ _ _ h => h) (Or.inl ⟨by rfl, ?_⟩) hHeld ?_
          rotate_left
          · (intro w hSw; (try dsimp only at hSw); (go_simp <;> with_reducible rfl))
          try simp only [Act.put, List.getElem_toArray, List.getElem_cons_succ, List.getElem_cons_zero, List.setIfInBounds_toArray, List.set_cons_zero, List.set_cons_succ]
          refine wpAnyH_take (i := 11) (v := ?_) rfl (by kernel_rfl) (by kernel_rfl) (by kernel_rfl) (fun _ _ _ h => h) (Or.inl ⟨by rfl, ?_⟩) hHeld ?_
          rotate_left
          · (intro w hSw; (try dsimp only at hSw); (go_simp <;> with_reducible rfl))
          try simp only [Act.put, List.getElem_toArray, List.getElem_cons_succ, List.getElem_cons_zero, List.setIfInBounds_toArray, List.set_cons_zero, List.set_cons_succ]
          refine wpAnyH_take (i := 13) (v := ?_) rfl (by kernel_rfl) (by kernel_rfl) (by kernel_rfl) (fun _ _ _ h => h) (Or.inl ⟨by rfl, ?_⟩) hHeld ?_
          rotate_left
          · (intro w hSw; (try dsimp only at hSw); (go_simp <;> with_reducible rfl))
          try simp only [Act.put, List.getElem_toArray, List.getElem_cons_succ, List.getElem_cons_zero, List.setIfInBounds_toArray, List.set_cons_zero, List.set_cons_succ]
          refine wpAnyH_take (i := 14) (v := ?_) rfl (by kernel_rfl) (by kernel_rfl) (by kernel_rfl) (fun _ _ _ h => h) (Or.inl ⟨by rfl, ?_⟩) hHeld ?_
          rotate_left
          · (intro w hSw; (try dsimp only at hSw); (go_simp <;> with_reducible rfl))
          try simp only [Act.put, List.getElem_toArray, List.getElem_cons_succ, List.getElem_cons_zero, List.setIfInBounds_toArray, List.set_cons_zero, List.set_cons_succ]
          refine wpAnyH_take (i := 15) (v := ?_) rfl (by kernel_rfl) (by kernel_rfl) (by kernel_rfl) (fun _ _ _ h => h) (Or.inl ⟨by rfl, ?_⟩) hHeld ?_
          rotate_left
          · (intro w hSw; (try dsimp only at hSw); (go_simp <;> with_reducible rfl))
          try simp only [Act.put, List.getElem_toArray, List.getElem_cons_succ, List.getElem_cons_zero, List.setIfInBounds_toArray, List.set_cons_zero, List.set_cons_succ]
          refine wpAnyH_take (i := 16) (v := ?_) rfl (by kernel_rfl) (by kernel_rfl) (by kernel_rfl) (fun _ _ _ h => h) (Or.inl ⟨by rfl, ?_⟩) hHeld ?_
          rotate_left
          · (intro w hSw; (try dsimp only at hSw); (go_simp <;> with_reducible rfl))
          try simp only [Act.put, List.getElem_toArray, List.getElem_cons_succ, List.getElem_cons_zero, List.setIfInBounds_toArray, List.set_cons_zero, List.set_cons_succ]
          refine wpAnyH_ready (rs := [12, 17]) (by kernel_rfl) (by simp) ?_
          refine AllReadyH.cons rfl (fun K hK => ?_) ?_
          · go_simp
            refine (HOw.out _ hbd).mono ?_
            rintro e w6 ⟨⟨A6, n6, c6, rfl, hn6, ho6⟩, hb6⟩
            have hb6l : Below wr.heap.size wr w6 := hbd.trans hb6
            have ho6l : OwnI w6 wr.heap.size A6 c6 rx := ho6
            have hn6k : n6 ≤ 1024 := by rw [← hn6]; exact hrx
            try go_wp2_with fail
            refine hK.out _ _ (HSof.out _ (hb6l.mono hszr5)) (fun hHeld => ?_)
            clear hK K
            try simp only [Act.put, List.getElem_toArray, List.getElem_cons_succ, List.getElem_cons_zero, List.setIfInBounds_toArray, List.set_cons_zero, List.set_cons_succ]
            refine wpAnyH_ready (rs := [17]) (by kernel_rfl) (by simp) ?_
            refine AllReadyH.cons rfl (fun K hK => ?_) ?_
            · go_simp
              refine hK.out _ _ (HSof.out _ ((hb6l.mono hszr5).alloc (Nat.le_trans hszr5 hb6l.size) _)) (fun hHeld => ?_)
              clear hK K
              try simp only [Act.put, List.getElem_toArray, List.getElem_cons_succ, List.getElem_cons_zero, List.setIfInBounds_toArray, List.set_cons_zero, List.set_cons_succ]
              refine wpAnyH_ready (rs := [18]) (by kernel_rfl) (by simp) ?_
              refine AllReadyH.cons rfl (fun K hK => ?_) ?_
              · refine stepI_append rfl _ _ rfl wr.heap.size A6 c6 n6 rx ((P : Int) + (c : Int)) w6.heap.size (by rfl) (by rfl) hn6 (ho6l.alloc (.cells #[.int .i64 ((P : Int) + (c : Int))] 2)) (World.cell?_alloc_at _ _ _ _ rfl) (by omega) (by have := hb6l.size; simp; omega) ?_
                intro A7 c7 w7 ho7 hg7 ha7
                have hb7 : Below wr.heap.size wr w7 := (hb6l.alloc hb6l.size (.cells #[.int .i64 ((P : Int) + (c : Int))] 2)).trans (below_blk (ho6l.alloc (.cells #[.int .i64 ((P : Int) + (c : Int))] 2)) hg7 (Nat.le_refl _) (by have := hb6l.size; simp; omega))
                refine hK.out _ _ (HSof.out _ (hb7.mono hszr5)) (fun hHeld => ?_)
                clear hK K
                try simp only [Act.put, List.getElem_toArray, List.getElem_cons_succ, List.getElem_cons_zero, List.setIfInBounds_toArray, List.set_cons_zero, List.set_cons_succ]
                refine wpAnyH_ready (rs := [19]) (by kernel_rfl) (by simp) ?_
                refine AllReadyH.cons rfl (fun K hK => ?_) ?_
                · go_simp
                  refine hK.out _ _ (HSof.out _ ((hb7.mono hszr5).alloc (Nat.le_trans hszr5 hb7.size) _)) (fun hHeld => ?_)
                  clear hK K
                  try simp only [Act.put, List.getElem_toArray, List.getElem_cons_succ, List.getElem_cons_zero, List.setIfInBounds_toArray, List.set_cons_zero, List.set_cons_succ]
                  refine wpAnyH_ready (rs := [20]) (by kernel_rfl) (by simp) ?_
                  refine AllReadyH.cons rfl (fun K hK => ?_) ?_
                  · refine stepM_appendR rfl _ _ rfl w4.heap.size A5 c5 s2 R5 (cqC P xss C c ++ cqI P xss C c i) A7 (n6 + 1) c7 (rx ++ [(P : Int) + (c : Int)]) w7.heap.size (by rfl) (by rfl) HS5.out (by rw [List.length_append, hn6]; rfl) ((HO5.out.below hb7).alloc (.cells #[.slice A7 (n6 + 1) c7] 52)) ((ho7.lower (lo' := w4.heap.size) hszr5).alloc (.cells #[.slice A7 (n6 + 1) c7] 52)) (later_apart HO5.out ho7) (World.cell?_alloc_at _ _ _ _ rfl) (by omega) (by have := hb7.size; simp; omega) ?_
                    intro A8 c8 w8 ho8 hg8 ha8
                    have hB8 : Below w4.heap.size wr w8 := ((hb7.mono hszr5).alloc (Nat.le_trans hszr5 hb7.size) (.cells #[.slice A7 (n6 + 1) c7] 52)).trans (below_blkM ((HO5.out.below hb7).alloc (.cells #[.slice A7 (n6 + 1) c7] 52)) hg8 (Nat.le_refl _) (by have := hb7.size; simp; omega))
                    refine hK.out _ _ (HSof.out _ hB8) (fun hHeld => ?_)
                    clear hK K
                    try simp only [Act.put, List.getElem_toArray, List.getElem_cons_succ, List.getElem_cons_zero, List.setIfInBounds_toArray, List.set_cons_zero, List.set_cons_succ]
                    refine wpAnyH_take (i := 21) (v := ?_) rfl (by kernel_rfl) (by kernel_rfl) (by kernel_rfl) (fun _ _ _ h => h) (Or.inl ⟨by rfl, ?_⟩) hHeld ?_
                    rotate_left
                    · (intro w hSw; (try dsimp only at hSw); (go_simp <;> with_reducible rfl))
                    try simp only [Act.put, List.getElem_toArray, List.getElem_cons_succ, List.getElem_cons_zero, List.setIfInBounds_toArray, List.set_cons_zero, List.set_cons_succ]
                    refine wpAnyH_done (by kernel_rfl) ?_ _
                    refine NoPanic.normal ?_
                    have HB9 := Lib.hid (HB5.out.trans hB8)
                    have HO9 := Lib.hid (show OwnM w8 w4.heap.size A8 c8 (putS R5 s2 A7 c7) (cqC P xss C c ++ cqI P xss C c (i + 1)) from by rw [HSu.out, ← List.append_assoc]; exact ho8)
                    have HI9 := Lib.hid (((HI5.out.below hb7).alloc (.cells #[.slice A7 (n6 + 1) c7] 52)).grown hg8 (fun g e => HO5.out.blk_ne HI5.out e))
                    have HAp9 := Lib.hid (show ∀ k, k < s2 + 1 → ∀ g, (putS R5 s2 A7 c7 k).1 = some ⟨g, 0, none⟩ → Al ≠ some ⟨g, 0, none⟩ from fun k hk g e e2 => by
                      unfold putS at e
                      by_cases e3 : k = s2
                      · rw [if_pos e3] at e
                        have h1 := (ho7.lt e).1
                        have h2 := (HI5.out.lt e2).2
                        omega
                      · rw [if_neg e3] at e
                        exact HAp5.out k (by omega) g e e2)
                    have HS9 := Lib.hid (show (cqC P xss C c ++ cqI P xss C c (i + 1)).length = s2 + 1 from by rw [HSu.out, ← List.append_assoc, List.length_append, HS5.out]; rfl)
                    clear hK0 hccr hclr hckr hc0 hc1
                    go_wp2
                    go_roundw
                    case rel => exact ⟨i + 1, s2 + 1, _, _, _, by omega, by go_num, rfl, HS9, by omega, HO9, HI9, HAp9, HB9⟩
                    case measure => simp [intOf]; omega
                  exact AllReadyH.nil
                exact AllReadyH.nil
              exact AllReadyH.nil
            exact AllReadyH.nil
          refine AllReadyH.cons rfl (fun K hK => ?_) ?_
          · go_simp
            refine hK.out _ _ (HSof.out _ (hbz.mono hszr5)) (fun hHeld => ?_)
            clear hK K
            try simp only [Act.put, List.getElem_toArray, List.getElem_cons_succ, List.getElem_cons_zero, List.setIfInBounds_toArray, List.set_cons_zero, List.set_cons_succ]
            refine wpAnyH_ready (rs := [12]) (by kernel_rfl) (by simp) ?_
            refine AllReadyH.cons rfl (fun K hK => ?_) ?_
            · go_simp
              refine (HOw.out _ hbz).mono ?_
              rintro e w6 ⟨⟨A6, n6, c6, rfl, hn6, ho6⟩, hb6⟩
              have hb6l : Below wr.heap.size wr w6 := hbz.trans (hb6.mono hbz.size)
              have hcl6 : w6.cell? ⟨wr.heap.size, 0, none⟩ = some (.int .i64 ((P : Int) + (c : Int))) := (hb6.cell (p := ⟨wr.heap.size, 0, none⟩) (by simp)).trans (by simp [go_sem])
              have ho6l : OwnI w6 wr.heap.size A6 c6 rx := ho6.lower (by simp)
              have hn6k : n6 ≤ 1024 := by rw [← hn6]; exact hrx
              try go_wp2_with fail
              refine hK.out _ _ (HSof.out _ (hb6l.mono hszr5)) (fun hHeld => ?_)
              clear hK K
              try simp only [Act.put, List.getElem_toArray, List.getElem_cons_succ, List.getElem_cons_zero, List.setIfInBounds_toArray, List.set_cons_zero, List.set_cons_succ]
              refine wpAnyH_ready (rs := [18]) (by kernel_rfl) (by simp) ?_
              refine AllReadyH.cons rfl (fun K hK => ?_) ?_
              · refine stepI_append rfl _ _ rfl wr.heap.size A6 c6 n6 rx ((P : Int) + (c : Int)) wr.heap.size (by rfl) (by rfl) hn6 ho6l hcl6 (by omega) hb6l.size ?_
                intro A7 c7 w7 ho7 hg7 ha7
                have hb7 : Below wr.heap.size wr w7 := hb6l.trans (below_blk ho6l hg7 (Nat.le_refl _) hb6l.size)
                refine hK.out _ _ (HSof.out _ (hb7.mono hszr5)) (fun hHeld => ?_)
                clear hK K
                try simp only [Act.put, List.getElem_toArray, List.getElem_cons_succ, List.getElem_cons_zero, List.setIfInBounds_toArray, List.set_cons_zero, List.set_cons_succ]
                refine wpAnyH_ready (rs := [19]) (by kernel_rfl) (by simp) ?_
                refine AllReadyH.cons rfl (fun K hK => ?_) ?_
                · go_simp
                  refine hK.out _ _ (HSof.out _ ((hb7.mono hszr5).alloc (Nat.le_trans hszr5 hb7.size) _)) (fun hHeld => ?_)
                  clear hK K
                  try simp only [Act.put, List.getElem_toArray, List.getElem_cons_succ, List.getElem_cons_zero, List.setIfInBounds_toArray, List.set_cons_zero, List.set_cons_succ]
                  refine wpAnyH_ready (rs := [20]) (by kernel_rfl) (by simp) ?_
                  refine AllReadyH.cons rfl (fun K hK => ?_) ?_
                  · refine stepM_appendR rfl _ _ rfl w4.heap.size A5 c5 s2 R5 (cqC P xss C c ++ cqI P xss C c i) A7 (n6 + 1) c7 (rx ++ [(P : Int) + (c : Int)]) w7.heap.size (by rfl) (by rfl) HS5.out (by rw [List.length_append, hn6]; rfl) ((HO5.out.below hb7).alloc (.cells #[.slice A7 (n6 + 1) c7] 52)) ((ho7.lower (lo' := w4.heap.size) hszr5).alloc (.cells #[.slice A7 (n6 + 1) c7] 52)) (later_apart HO5.out ho7) (World.cell?_alloc_at _ _ _ _ rfl) (by omega) (by have := hb7.size; simp; omega) ?_
                    intro A8 c8 w8 ho8 hg8 ha8
                    have hB8 : Below w4.heap.size wr w8 := ((hb7.mono hszr5).alloc (Nat.le_trans hszr5 hb7.size) (.cells #[.slice A7 (n6 + 1) c7] 52)).trans (below_blkM ((HO5.out.below hb7).alloc (.cells #[.slice A7 (n6 + 1) c7] 52)) hg8 (Nat.le_refl _) (by have := hb7.size; simp; omega))
                    refine hK.out _ _ (HSof.out _ hB8) (fun hHeld => ?_)
                    clear hK K
                    try simp only [Act.put, List.getElem_toArray, List.getElem_cons_succ, List.getElem_cons_zero, List.setIfInBounds_toArray, List.set_cons_zero, List.set_cons_succ]
                    refine wpAnyH_take (i := 21) (v := ?_) rfl (by kernel_rfl) (by kernel_rfl) (by kernel_rfl) (fun _ _ _ h => h) (Or.inl ⟨by rfl, ?_⟩) hHeld ?_
                    rotate_left
                    · (intro w hSw; (try dsimp only at hSw); (go_simp <;> with_reducible rfl))
                    try simp only [Act.put, List.getElem_toArray, List.getElem_cons_succ, List.getElem_cons_zero, List.setIfInBounds_toArray, List.set_cons_zero, List.set_cons_succ]
                    refine wpAnyH_done (by kernel_rfl) ?_ _
                    refine NoPanic.normal ?_
                    have HB9 := Lib.hid (HB5.out.trans hB8)
                    have HO9 := Lib.hid (show OwnM w8 w4.heap.size A8 c8 (putS R5 s2 A7 c7) (cqC P xss C c ++ cqI P xss C c (i + 1)) from by rw [HSu.out, ← List.append_assoc]; exact ho8)
                    have HI9 := Lib.hid (((HI5.out.below hb7).alloc (.cells #[.slice A7 (n6 + 1) c7] 52)).grown hg8 (fun g e => HO5.out.blk_ne HI5.out e))
                    have HAp9 := Lib.hid (show ∀ k, k < s2 + 1 → ∀ g, (putS R5 s2 A7 c7 k).1 = some ⟨g, 0, none⟩ → Al ≠ some ⟨g, 0, none⟩ from fun k hk g e e2 => by
                      unfold putS at e
                      by_cases e3 : k = s2
                      · rw [if_pos e3] at e
                        have h1 := (ho7.lt e).1
                        have h2 := (HI5.out.lt e2).2
                        omega
                      · rw [if_neg e3] at e
                        exact HAp5.out k (by omega) g e e2)
                    have HS9 := Lib.hid (show (cqC P xss C c ++ cqI P xss C c (i + 1)).length = s2 + 1 from by rw [HSu.out, ← List.append_assoc, List.length_append, HS5.out]; rfl)
                    clear hK0 hccr hclr hckr hc0 hc1
                    go_wp2
                    go_roundw
                    case rel => exact ⟨i + 1, s2 + 1, _, _, _, by omega, by go_num, rfl, HS9, by omega, HO9, HI9, HAp9, HB9⟩
                    case measure => simp [intOf]; omega
                  exact AllReadyH.nil
                exact AllReadyH.nil
              exact AllReadyH.nil
            exact AllReadyH.nil
          exact AllReadyH.nil
        · obtain rfl : i = K := by omega
          have HLx := Lib.hid (lsX_len P c)
          have HNL := Lib.hid (lsX_succ P c)
          have HS8 := Lib.hid (show (cqC P xss C (c + 1)).length = s2 from by rw [cqC_succ, HLe.out]; exact HS5.out)
          have HO8 := Lib.hid (show OwnM wr w4.heap.size A5 c5 R5 (cqC P xss C (c + 1)) from by rw [cqC_succ, HLe.out]; exact HO5.out)
          have hx5 := HX4.out.step (lo := w4.heap.size) (by omega) HB5.out
          have hc0 := hx5.c0
          have hwr : IntKind.i64.wrap ((P : Int) + (c : Int)) = (P : Int) + (c : Int) := IntWalk.i64_in _ (by omega)
          have HIa := Lib.hid (HI5.out.alloc (.cells #[.int .i64 ((P : Int) + (c : Int))] 2))
          have HOa := Lib.hid (HO8.out.alloc (.cells #[.int .i64 ((P : Int) + (c : Int))] 2))
          generalize lsX P c = lx at *
          clear hx5
          go_wp2_with (at_builtin; refine wpI_append rfl _ _ rfl w4.heap.size _ _ _ lx ((P : Int) + (c : Int)) wr.heap.size rfl rfl HLx.out HIa.out (World.cell?_alloc_at _ _ _ _ rfl) (by omega) (by simp; omega) ?_; intro A7 c7 w7 ho7 hg7 ha7)
          have HB8 := Lib.hid (show Below w4.heap.size w4 w7 from (HB5.out.alloc hszr5 (.cells #[.int .i64 ((P : Int) + (c : Int))] 2)).trans (below_blk HIa.out hg7 (Nat.le_refl _) (by simp; omega)))
          have HO9 := Lib.hid (HOa.out.grown_other hg7 (fun g e => by subst e; exact HI5.out.blk_ne (HO8.out.head_ne HI5.out)) (fun k hk g e => HI5.out.blk_ne (HAp5.out k (by rw [HS8.out] at hk; exact hk) g e)))
          have HI9 := Lib.hid (show OwnI w7 w4.heap.size A7 c7 (lsX P (c + 1)) from by rw [HNL.out]; exact ho7)
          have HAp9 := Lib.hid (show ∀ k, k < s2 → ∀ g, (R5 k).1 = some ⟨g, 0, none⟩ → A7 ≠ some ⟨g, 0, none⟩ from fun k hk g e e2 => by
            rw [e2, blk_some] at ha7
            rcases ha7 with h | h
            · rcases HI5.out.form with ⟨e4, _⟩ | ⟨g', e4, _⟩
              · rw [e4] at h; simp [blk] at h
              · rw [e4, blk_some] at h; injection h with h; subst h; exact HAp5.out k hk g e e4
            · injection h with h
              have := ((HO8.out.rows k (by rw [HS8.out]; exact hk)).lt e).2
              simp at h; omega)
          have hs9 : s2 ≤ 1024 * (c + 1) := by omega
          clear ho7 hg7 ha7 hc0
          go_wp2
          go_roundw
          case rel => exact ⟨c + 1, s2, _, _, _, _, _, by omega, by go_num, rfl, rfl, HS8, hs9, HO9, HI9, HAp9, HB8⟩
          case measure => simp [intOf]; omega
    · obtain rfl : c = n4 := by omega
      have HEq := Lib.hid (show C.length = c from HN4.out)
      rw [HEq.out] at HSo
      have hs8 : s ≤ 32768 := by omega
      have HLx := Lib.hid (lsX_len P c)
      have HIa := Lib.hid (HI.out.alloc (.cells #[.slice Al c cl] 52))
      have HOa := Lib.hid (HO.out.alloc (.cells #[.slice Al c cl] 52))
      have HBa := Lib.hid (HB.out.alloc hszr (.cells #[.slice Al c cl] 52))
      have HApf := Lib.hid (fun (k : Nat) (hk : k < (cqC P xss C c).length) => HAp.out k (by rw [← HS.out]; exact hk))
      generalize cqC P xss C c = bl at *
      generalize lsX P c = lx at *
      go_wp2_with (at_builtin; refine wpM_append rfl _ _ rfl w4.heap.size _ _ _ R' bl Al c cl lx wr.heap.size rfl rfl HS.out HLx.out HOa.out HIa.out HApf.out (World.cell?_alloc_at _ _ _ _ rfl) (by omega) (by simp; omega) ?_; intro A5 c5 R5 w5 ho5 hg5 ha5; refine stopP ?_)
      have HB5 := Lib.hid (HBa.out.trans (below_blkM HOa.out hg5 (Nat.le_refl _) (by simp; omega)))
      have hl5 : (bl ++ [lx]).length = s + 1 := by rw [List.length_append, HS.out]; rfl
      have HSk := Lib.hid (HSo.out w5.drew w4.heap.size A5 (s + 1) c5 R5 ho5.drew hl5)
      have HZ5 := Lib.hid (HZ4.out.step (lo := w4.heap.size) (by omega) HB5.out)
      have HX5 := Lib.hid (HX4.out.step (lo := w4.heap.size) (by omega) HB5.out)
      have hsz5 := HB5.out.size
      have HBw := Lib.hid (HB4.out.trans (HB5.out.mono (by omega)))
      clear ho5 hg5 ha5 hl5
      refine Lib.hid ?_
      have hc0 := HX5.out.c0
      have hbd : Below w5.heap.size w5 w5.drew := (Below.refl _ _).drew
      have hd5 : w5.drew.heap.size = w5.heap.size := rfl
      have hwr1 : IntKind.i64.wrap ((P : Int) + (K : Int)) = (P : Int) + (K : Int) := IntWalk.i64_in _ (by omega)
      have hwr2 : IntKind.i64.wrap ((P : Int) + (K : Int) + 1) = (P : Int) + (K : Int) + 1 := IntWalk.i64_in _ (by omega)
      have hkk : ∀ w', Below w5.heap.size w5 w' → w'.cell? ⟨w.heap.size, 0, none⟩ = some (.int .i64 (P : Int)) := fun w' hb => (hb.cell (p := ⟨w.heap.size, 0, none⟩) (by show w.heap.size < w5.heap.size; omega)).trans hc0
      go_wp2
      refine wp_region_noPanic ?_
      refine wp_region_held_drew (S := (fun w' => w'.cell? ⟨w.heap.size, 0, none⟩ = some (.int .i64 (P : Int)))) (by kernel_rfl) (hkk _ hbd) (fun hHeld => ?_)
      refine wpAnyH_take (i := 0) (v := ?_) rfl (by kernel_rfl) (by kernel_rfl) (by kernel_rfl) (fun _ _ _ h => h) (Or.inl ⟨by rfl, ?_⟩) hHeld ?_
      rotate_left
      · (intro w hSw; (try dsimp only at hSw); (go_simp <;> with_reducible rfl))
      try simp only [Act.put, List.getElem_toArray, List.getElem_cons_succ, List.getElem_cons_zero, List.setIfInBounds_toArray, List.set_cons_zero, List.set_cons_succ]
      refine wpAnyH_take (i := 1) (v := ?_) rfl (by kernel_rfl) (by kernel_rfl) (by kernel_rfl) (fun _ _ _ h => h) (Or.inl ⟨by rfl, ?_⟩) hHeld ?_
      rotate_left
      · (intro w hSw; (try dsimp only at hSw); (go_simp <;> with_reducible rfl))
      try simp only [Act.put, List.getElem_toArray, List.getElem_cons_succ, List.getElem_cons_zero, List.setIfInBounds_toArray, List.set_cons_zero, List.set_cons_succ]
      refine wpAnyH_take (i := 2) (v := ?_) rfl (by kernel_rfl) (by kernel_rfl) (by kernel_rfl) (fun _ _ _ h => h) (Or.inl ⟨by rfl, ?_⟩) hHeld ?_
      rotate_left
      · (intro w hSw; (try dsimp only at hSw); (go_simp <;> with_reducible rfl))
      try simp only [Act.put, List.getElem_toArray, List.getElem_cons_succ, List.getElem_cons_zero, List.setIfInBounds_toArray, List.set_cons_zero, List.set_cons_succ]
      refine wpAnyH_take (i := 3) (v := ?_) rfl (by kernel_rfl) (by kernel_rfl) (by kernel_rfl) (fun _ _ _ h => h) (Or.inl ⟨by rfl, ?_⟩) hHeld ?_
      rotate_left
      · (intro w hSw; (try dsimp only at hSw); (go_simp <;> with_reducible rfl))
      try simp only [Act.put, List.getElem_toArray, List.getElem_cons_succ, List.getElem_cons_zero, List.setIfInBounds_toArray, List.set_cons_zero, List.set_cons_succ]
      refine wpAnyH_take (i := 4) (v := ?_) rfl (by kernel_rfl) (by kernel_rfl) (by kernel_rfl) (fun _ _ _ h => h) (Or.inl ⟨by rfl, ?_⟩) hHeld ?_
      rotate_left
      · (intro w hSw; (try dsimp only at hSw); (go_simp <;> with_reducible rfl))
      try simp only [Act.put, List.getElem_toArray, List.getElem_cons_succ, List.getElem_cons_zero, List.setIfInBounds_toArray, List.set_cons_zero, List.set_cons_succ]
      refine wpAnyH_take (i := 5) (v := ?_) rfl (by kernel_rfl) (by kernel_rfl) (by kernel_rfl) (fun _ _ _ h => h) (Or.inl ⟨by rfl, ?_⟩) hHeld ?_
      rotate_left
      · (intro w hSw; (try dsimp only at hSw); (go_simp <;> with_reducible rfl))
      try simp only [Act.put, List.getElem_toArray, List.getElem_cons_succ, List.getElem_cons_zero, List.setIfInBounds_toArray, List.set_cons_zero, List.set_cons_succ]
      refine wpAnyH_ready (rs := [6]) (by kernel_rfl) (by simp) ?_
      refine AllReadyH.cons rfl (fun K' hK => ?_) ?_
      · go_simp
        refine (HSk.out).mono ?_
        rintro e w9 ⟨⟨A9, n9, c9, R9, rfl, hn9, ho9⟩, hb9⟩
        have hb59 : Below w5.heap.size w5 w9 := hbd.trans hb9
        have HZ9 := Lib.hid (HZ5.out.step (lo := w5.heap.size) (by omega) hb59)
        have HB9 := Lib.hid (HBw.out.trans (hb59.mono HBw.out.size))
        have HO9 := Lib.hid (show OwnM w9 (w.heap.size + 1 + 1) A9 c9 R9 lst from ho9.lower (by omega))
        have HN9 := Lib.hid hn9
        have hS9 := hkk _ hb59
        have hS9s : ∀ u0 u1, ((w9.setCell ⟨w.heap.size + 1, 0, none⟩ u0).setCell ⟨w.heap.size + 1, 1, none⟩ u1).cell? ⟨w.heap.size, 0, none⟩ = some (.int .i64 (P : Int)) := fun u0 u1 => ((below_set2 (u0 := u0) (u1 := u1) (Below.refl (w.heap.size + 1) w9) (Nat.le_refl (w.heap.size + 1))).cell (p := ⟨w.heap.size, 0, none⟩) (by show w.heap.size < w.heap.size + 1; omega)).trans hS9
        have rz := HZ9.out
        have z0 := rz.c0
        have z1 := rz.c1
        have y0 := rz.f0
        have y1 := rz.f1
        clear rz
        clear hn9 ho9 hb9
        try go_wp2_with fail
        refine hK.out _ _ hS9 (fun hHeld => ?_)
        clear hK K'
        try simp only [Act.put, List.getElem_toArray, List.getElem_cons_succ, List.getElem_cons_zero, List.setIfInBounds_toArray, List.set_cons_zero, List.set_cons_succ]
        refine wpAnyH_take (i := 7) (v := ?_) rfl (by kernel_rfl) (by kernel_rfl) (by kernel_rfl) (fun _ _ _ h => h) (Or.inl ⟨by rfl, ?_⟩) hHeld ?_
        rotate_left
        · (intro w hSw; (try dsimp only at hSw); (go_simp <;> with_reducible rfl))
        try simp only [Act.put, List.getElem_toArray, List.getElem_cons_succ, List.getElem_cons_zero, List.setIfInBounds_toArray, List.set_cons_zero, List.set_cons_succ]
        refine wpAnyH_ready (rs := [8]) (by kernel_rfl) (by simp) ?_
        refine AllReadyH.cons rfl (fun K' hK => ?_) ?_
        · go_simp
          refine hK.out _ _ (hS9s _ _) (fun hHeld => ?_)
          clear hK K'
          try simp only [Act.put, List.getElem_toArray, List.getElem_cons_succ, List.getElem_cons_zero, List.setIfInBounds_toArray, List.set_cons_zero, List.set_cons_succ]
          refine wpAnyH_take (i := 9) (v := ?_) rfl (by kernel_rfl) (by kernel_rfl) (by kernel_rfl) (fun _ _ _ h => h) (Or.inl ⟨by rfl, ?_⟩) hHeld ?_
          rotate_left
          · (intro w hSw; (try dsimp only at hSw); (go_simp <;> with_reducible rfl))
          try simp only [Act.put, List.getElem_toArray, List.getElem_cons_succ, List.getElem_cons_zero, List.setIfInBounds_toArray, List.set_cons_zero, List.set_cons_succ]
          refine wpAnyH_done (by kernel_rfl) ?_ _
          refine NoPanic.normal ?_
          go_wp2
          obtain ⟨r0, r1⟩ := HZ9.out.read (.int .i64 ((P : Int) + (K : Int) + 1)) (.slice A9 n9 c9)
          refine bodyPost_ret (v := .tuple #[.agg #[.int .i64 ((P : Int) + (K : Int) + 1), .slice A9 n9 c9], .int .i64 0]) (by simp [results, Try.results29, go_sem, r0, r1]) rfl ⟨⟨A9, n9, c9, R9, rfl, HN9.out, own_set2 HO9.out (by omega) _ _⟩, below_set2 HB9.out (by omega)⟩
        exact AllReadyH.nil
      exact AllReadyH.nil
end Go.Proofs.Ytcdbbcnoleilfaa
