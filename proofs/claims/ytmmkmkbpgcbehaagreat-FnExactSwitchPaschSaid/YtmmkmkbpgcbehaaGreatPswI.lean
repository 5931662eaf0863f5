/-
  SwitchPasch of the program. Conditions: those of each theorem.
-/
import Derived.Test.YtmmkmkbpgcbehaaGreatPswR
import Derived.Test.YtmmkmkbpgcbehaaGreatPasB
import Derived.Test.YtmmkmkbpgcbehaaGreatRelA
import Derived.Test.YtmmkmkbpgcbehaaGreatMake
import Derived.Test.YtmmkmkbpgcbehaaGreatGb
namespace Go.Proofs.YtmmkmkbpgcbehaaGreat
open Go.RowKit
set_option linter.unusedVariables false
set_option linter.unusedSimpArgs false

set_option maxRecDepth 100000 in
set_option maxHeartbeats 16000000 in
theorem implSwitchPasch_c (w : World) (p : Int) (hp : -9223372036854775808 ≤ p ∧ p ≤ 9223372036854775807) (A : Option Addr) (n c : Nat) (R : Spine) (xss : List (List Int)) (hr : RdM w A c R xss) (hn : xss.length = n) (hw : WfM xss) (hz : (n : Int) + (tot xss : Nat) ≤ 1048576)
    (B : Option Addr) (m d : Nat) (q : List Int) (hy : RdI w B d q) (hm : q.length = m) (hwy : WfL q) (hzy : (m : Int) ≤ 1048576) :
    Calls Tryz.prog 16 #[.agg #[.int .i64 p, .slice A n c], .slice B m d] w (PostDC w (spP p xss q) (spX p xss q) (spC p xss q)) := by
  clear hw hz hwy
  have hzD := zeroD
  obtain ⟨wa, hwa⟩ : ∃ wa, wa = (w.alloc (.cells #[.int .i64 p, .slice A n c] 28)).alloc (.cells #[.int .i64 0, .slice none 0 0] 28) := ⟨_, rfl⟩
  have hXa : BoxD wa w.heap.size p A n c := by rw [hwa]; exact (BoxD.made _ _ _ _ _ _).below (below_boxed _ _)
  have hZa : RBox wa (w.heap.size + 1) := by
    rw [hwa]
    have := RBox.made (w.alloc (.cells #[.int .i64 p, .slice A n c] 28)) 28
    simpa using this
  have hBa : Below w.heap.size w wa := by rw [hwa]; exact (below_boxed _ _).alloc (by simp) _
  have hsa : w.heap.size + 2 ≤ wa.heap.size := by rw [hwa]; simp
  have HXa := Lib.hid hXa
  have HZa := Lib.hid hZa
  have HBa := Lib.hid hBa
  have hO := IsTriple_c wa p A n c R xss (hr.below hBa) hn
  rw [hwa] at hO
  rcases hd : tripB p xss with _ | _
  · have h1 : spC p xss q = 1 := if_neg (by rw [hd]; simp)
    obtain ⟨e1, e2⟩ := spX_no (p := p) (xss := xss) (q := q) (by omega)
    rw [e1, e2, h1]
    rw [hd] at hO
    have HO := Lib.hid hO
    have HWa := Lib.hid hwa
    clear hO hwa hXa hZa hBa hr hn hp hd hy hm h1 e1 e2
    go_enter Tryz.func16, Tryz.ntmps16
    go_wp2_with fail
    refine (HO.out).mono ?_
    rintro e w2 ⟨rfl, hb2⟩
    rw [← HWa.out] at hb2
    have HZ2 := Lib.hid (HZa.out.step (lo := wa.heap.size) (by omega) hb2)
    have HB2 := Lib.hid (HBa.out.trans (hb2.mono HBa.out.size))
    clear hb2
    have rz := HZ2.out
    have z0 := rz.c0
    have z1 := rz.c1
    have y0 := rz.f0
    have y1 := rz.f1
    clear rz
    go_wp2
    obtain ⟨r0, r1⟩ := HZ2.out.read (.int .i64 0) (.slice none 0 0)
    refine bodyPost_ret (v := .tuple #[.agg #[.int .i64 0, .slice none 0 0], .int .i64 1]) (by simp [results, Tryz.results16, go_sem, r0, r1]) rfl ⟨⟨none, 0, 0, fun _ => (none, 0), rfl, rfl, OwnM.nil_ _ _ _⟩, below_set2 HB2.out (by omega)⟩
  have hTd := trip_dsg hd
  obtain ⟨P, rfl⟩ : ∃ P : Nat, p = (P : Int) := ⟨p.toNat, by have := hTd.1.1.1; omega⟩
  obtain ⟨hD, hT⟩ := trip_sys hd
  have hn128 : n ≤ 128 := by have := hD.2.1; omega
  have hP32 : P ≤ 32 := by have := hD.1.2; omega
  rw [hd] at hO
  have HO := Lib.hid hO
  have HWa := Lib.hid hwa
  have HPs := Lib.hid (fun (W : World) (hb : Below w.heap.size w W) => paschsOf_c W P A n c R xss (hr.below hb) hn hD hT)
  have HHl := Lib.hid (fun (W : World) (hb : Below w.heap.size w W) (A7 : Option Addr) (n7 c7 : Nat) (R7 : Spine) (ho : RdM W A7 c7 R7 (qdR xss)) (hl : (qdR xss).length = n7) => hasList_c W A7 n7 c7 R7 (qdR xss) ho hl B m d q (hy.below hb) hm)
  rcases hf : fdB (qdR xss) q with _ | _
  · have h1 : spC (P : Int) xss q = 6 := (if_pos hd).trans (if_neg (by rw [hf]; simp))
    obtain ⟨e1, e2⟩ := spX_no (p := (P : Int)) (xss := xss) (q := q) (by omega)
    rw [e1, e2, h1]
    rw [hf] at HHl
    clear hO hwa hXa hZa hBa hr hn hp hd hy hm h1 e1 e2 hf hD hT hTd
    go_enter Tryz.func16, Tryz.ntmps16
    go_wp2_with fail
    refine (HO.out).mono ?_
    rintro e w2 ⟨rfl, hb2⟩
    rw [← HWa.out] at hb2
    have HX2 := Lib.hid (HXa.out.below hb2)
    have HZ2 := Lib.hid (HZa.out.step (lo := wa.heap.size) (by omega) hb2)
    have HB2 := Lib.hid (HBa.out.trans (hb2.mono HBa.out.size))
    have hs2 : w.heap.size + 2 ≤ w2.heap.size := by have := hb2.size; omega
    have hx2c0 := HX2.out.c0
    have hx2c1 := HX2.out.c1
    clear hb2
    go_wp2_with fail
    refine (HPs.out w2 HB2.out).mono ?_
    rintro e w3 ⟨⟨A3, n3, c3, R3, rfl, hn3, ho3⟩, hb3⟩
    have HX3 := Lib.hid (HX2.out.below hb3)
    have HZ3 := Lib.hid (HZ2.out.step (lo := w2.heap.size) (by omega) hb3)
    have HB3 := Lib.hid (HB2.out.trans (hb3.mono HB2.out.size))
    have hs3 : w.heap.size + 2 ≤ w3.heap.size := by have := hb3.size; omega
    have HHw := Lib.hid (HHl.out w3 HB3.out A3 n3 c3 R3 ho3.rd hn3)
    clear hb3 ho3 hn3 hx2c0 hx2c1
    go_wp2_with fail
    refine (HHw.out).mono ?_
    rintro e w4 ⟨rfl, hb4⟩
    have HX4 := Lib.hid (HX3.out.below hb4)
    have HZ4 := Lib.hid (HZ3.out.step (lo := w3.heap.size) (by omega) hb4)
    have HB4 := Lib.hid (HB3.out.trans (hb4.mono HB3.out.size))
    have hs4 : w.heap.size + 2 ≤ w4.heap.size := by have := hb4.size; omega
    clear hb4
    have rz := HZ4.out
    have z0 := rz.c0
    have z1 := rz.c1
    have y0 := rz.f0
    have y1 := rz.f1
    clear rz
    go_wp2
    obtain ⟨r0, r1⟩ := HZ4.out.read (.int .i64 0) (.slice none 0 0)
    refine bodyPost_ret (v := .tuple #[.agg #[.int .i64 0, .slice none 0 0], .int .i64 6]) (by simp [results, Tryz.results16, go_sem, r0, r1]) rfl ⟨⟨none, 0, 0, fun _ => (none, 0), rfl, rfl, OwnM.nil_ _ _ _⟩, below_set2 HB4.out (by omega)⟩
  obtain ⟨h0, hsp, hsx⟩ := spX_eq (p := (P : Int)) hd hf
  rw [hsp, hsx, h0, show ((P : Int)).toNat = P from rfl]
  have hq : q ∈ qdR xss := of_decide_eq_true hf
  obtain ⟨hq4, _, hqlt⟩ := quad_lt hT hq
  obtain rfl : m = 4 := by omega
  obtain ⟨hmin, hOp, hx0, hxo, hoP⟩ := sp_points hD hT hq
  obtain ⟨x, hx⟩ : ∃ x : Nat, spF xss q = (x : Int) := ⟨(spF xss q).toNat, by omega⟩
  obtain ⟨o, ho⟩ : ∃ o : Nat, spO xss q = (o : Int) := ⟨(spO xss q).toNat, by omega⟩
  rw [hf] at HHl
  have HQn := Lib.hid (fun (i : Nat) (hi : i < 4) => (show ∃ k : Nat, k < n ∧ nth q i = (k : Int) ∧ qRw xss q i = row xss k ∧ (row xss k).length = 3 from by
    obtain ⟨_, h2, h3, h5⟩ := qRw_set hT hq hi
    refine ⟨(nth q i).toNat, by omega, by omega, rfl, hT.three _ h2⟩))
  have HAl := Lib.hid (fun (i : Nat) (hi : i ≤ 4) => (show (allT xss q i).length ≤ 32 from by
    have := setB_len (P := 32) (allT_set hT hq i hi).1; omega))
  have HFi := Lib.hid (show nth (qRw xss q 0) 0 = (x : Int) from hx)
  rw [hx] at hmin
  rw [ho] at hmin
  have HMin := Lib.hid hmin
  have HIm := Lib.hid (fun (W : World) (A7 B7 : Option Addr) (c7 d7 : Nat) (k : Nat) (hk : k < n) (h1 : RdI W A7 c7 (swp P (x : Int) (o : Int))) (h2 : RdI W B7 d7 (row xss k)) => (show Calls Tryz.prog 39 #[.slice A7 P c7, .slice B7 3 d7] W (PostS W (imL (swp P (x : Int) (o : Int)) (row xss k))) from by
    have hkx : k < xss.length := by omega
    have hb := hT.rows k hkx
    rw [hx, ho] at hxo
    rw [ho] at hoP
    have h3 := hT.three k hkx
    refine image_c W A7 B7 P 3 c7 d7 _ (row xss k) h1 (swp_len P _ _) h2 h3 (by omega) (fun j hj => (setB_iff.1 hb).2.1 _ (by rw [nth_eq (by omega)]; exact List.getElem_mem (by omega))) ?_
    have := im_swp (P := P) (x := (x : Int)) (o := (o : Int)) (by omega) hxo hoP hb
    rwa [h3] at this))
  have HM0 := Lib.hid (spM_zero P xss q)
  have HML := Lib.hid (fun (i : Nat) => (show (spM P xss q i).length = n from by rw [spM_len]; exact hn))
  have HMo := Lib.hid (fun (i k : Nat) (hi : i < 4) (hk : nth q i = (k : Int)) (hkn : k < n) => spM_old (P := P) (xss := xss) (quad_nodup hT hq) (i := i) (k := k) (by omega) hk (by omega))
  have HMs := Lib.hid (fun (i k : Nat) (hi : i < 4) (hk : nth q i = (k : Int)) (hkn : k < n) => (show (spM P xss q i).set k (imL (swp P (x : Int) (o : Int)) (row xss k)) = spM P xss q (i + 1) from by
    have := spM_set (P := P) (xss := xss) (q := q) (i := i) (k := k) (by omega) hk (by omega)
    rwa [hx, ho] at this))
  have HSo := Lib.hid (fun (W : World) (A7 : Option Addr) (c7 : Nat) (R7 : Spine) (h : RdM W A7 c7 R7 (spM P xss q 4)) => (show Calls Tryz.prog 40 #[.int .i64 (P : Int), .slice A7 n c7] W (PostDC W (P : Int) (sortLL (spL P xss q)) 0) from by
    have hl : (spM P xss q 4).length = n := by rw [spM_len]; exact hn
    have := sorted_c W (P : Int) A7 n c7 R7 (spM P xss q 4) h hl (by omega) (fun k hk => by have := spM_rows (P := P) hT (q := q) (i := 4) (k := k) (by omega); omega)
    rwa [show mkP (P : Int) (spM P xss q 4) = (P : Int) from if_pos (by omega), show mkL (spM P xss q 4) = sortLL (spM P xss q 4) from if_pos (by omega), show mkC (spM P xss q 4) = 0 from if_pos (by omega), spM_all hq4] at this))
  have HCp := Lib.hid (fun (W : World) (hb : Below w.heap.size w W) => copyLists_c W A n c R xss (hr.below hb) hn (by omega) (fun k hk => by have := hT.three k (by omega); omega))
  have HUn := Lib.hid (fun (W : World) (hb : Below w.heap.size w W) (A7 : Option Addr) (n7 c7 : Nat) (xs : List Int) (hx7 : RdI W A7 c7 xs) (hn7 : xs.length = n7) (k : Nat) (hk : k < n) => (show Calls Tryz.prog 34 #[.slice A7 n7 c7, .slice (R k).1 3 (R k).2] W (PostS W (unionL xs (row xss k))) from UnionSets_c W A7 (R k).1 n7 3 c7 (R k).2 xs (row xss k) hx7 hn7 ((hr.below hb).rows k (by omega)) (hT.three k (by omega))))
  have HCo := Lib.hid (fun (W : World) (hb : Below w.heap.size w W) (k : Nat) (hk : k < n) => contains_c W (R k).1 3 (R k).2 (row xss k) (x : Int) ((hr.below hb).rows k (by omega)) (hT.three k (by omega)))
  obtain ⟨b, off, rfl, hbl, hcl⟩ := hr.openQ (by
    have := (qRw_set hT hq (i := 0) (by omega)).2.1
    omega)
  have HCl := Lib.hid (fun (k : Nat) (hk : k < n) => (show w.cell? ⟨b, off + k, none⟩ = some (.slice (R k).1 3 (R k).2) from by have := hcl k (by omega); rwa [hT.three k (by omega)] at this))
  have HRr := Lib.hid (fun (k : Nat) (hk : k < n) => hr.rows k (by omega))
  obtain ⟨b2, off2, rfl, hb2l, hc2l⟩ : ∃ b2 off2, B = some ⟨b2, off2, none⟩ ∧ b2 < w.heap.size ∧ ∀ i, i < 4 → w.cell? ⟨b2, off2 + i, none⟩ = some (.int .i64 (nth q i)) := by
    obtain ⟨b2, off2, e2, hb2, _⟩ := hy.at_ 0 (by omega)
    refine ⟨b2, off2, e2, hb2, fun i hi => ?_⟩
    obtain ⟨b3, off3, e3, _, hc3⟩ := hy.at_ i (by omega)
    rw [e2] at e3
    injection e3 with e3
    injection e3 with e3 e4
    subst e3 e4
    exact hc3
  have HQc := Lib.hid hc2l
  have hxP : x < P := by omega
  have hoP' : o < P := by omega
  have hxo' : x < o := by omega
  have HXe := Lib.hid hx
  have HW0 := Lib.hid (show witT xss q (x : Int) 0 = [] ∧ allT xss q 0 = [] from ⟨rfl, rfl⟩)
  clear hO hwa hXa hZa hBa hr hn hp hd hy hm h0 hsp hsx hf hD hT hTd hq hq4 hqlt hmin hOp hx0 hxo hoP hx ho hcl hc2l
  generalize sortLL (spL P xss q) = lst at *
  go_enter Tryz.func16, Tryz.ntmps16
  go_wp2_with fail
  refine (HO.out).mono ?_
  rintro e w2 ⟨rfl, hb2⟩
  rw [← HWa.out] at hb2
  have HX2 := Lib.hid (HXa.out.below hb2)
  have HZ2 := Lib.hid (HZa.out.step (lo := wa.heap.size) (by omega) hb2)
  have HB2 := Lib.hid (HBa.out.trans (hb2.mono HBa.out.size))
  have hs2 : w.heap.size + 2 ≤ w2.heap.size := by have := hb2.size; omega
  have hx2c0 := HX2.out.c0
  have hx2c1 := HX2.out.c1
  clear hb2
  go_wp2_with fail
  refine (HPs.out w2 HB2.out).mono ?_
  rintro e w3 ⟨⟨A3, n3, c3, R3, rfl, hn3, ho3⟩, hb3⟩
  have HX3 := Lib.hid (HX2.out.below hb3)
  have HZ3 := Lib.hid (HZ2.out.step (lo := w2.heap.size) (by omega) hb3)
  have HB3 := Lib.hid (HB2.out.trans (hb3.mono HB2.out.size))
  have hs3 : w.heap.size + 2 ≤ w3.heap.size := by have := hb3.size; omega
  have HHw := Lib.hid (HHl.out w3 HB3.out A3 n3 c3 R3 ho3.rd hn3)
  clear hb3 ho3 hn3 hx2c0 hx2c1
  go_wp2_with fail
  refine (HHw.out).mono ?_
  rintro e w4 ⟨rfl, hb4⟩
  have HX4 := Lib.hid (HX3.out.below hb4)
  have HZ4 := Lib.hid (HZ3.out.step (lo := w3.heap.size) (by omega) hb4)
  have HB4 := Lib.hid (HB3.out.trans (hb4.mono HB3.out.size))
  have hs4 : w.heap.size + 2 ≤ w4.heap.size := by have := hb4.size; omega
  clear hb4
  have hb4lo := HB4.out.size
  have hc0 := HX4.out.c0
  have hc1 := HX4.out.c1
  obtain ⟨k0, hk0n, hk0, hk0r, hk0l⟩ := HQn.out 0 (by omega)
  have hq0 := (HB4.out.cell (p := ⟨b2, off2 + 0, none⟩) hb2l).trans (HQc.out 0 (by omega))
  rw [hk0, Nat.add_zero] at hq0
  have hcr0 := (HB4.out.cell (p := ⟨b, off + k0, none⟩) hbl).trans (HCl.out k0 hk0n)
  obtain ⟨b3, off3, e3, hb3, hc3⟩ := (HRr.out k0 hk0n).at_ 0 (by omega)
  have hc3' := (HB4.out.cell (p := ⟨b3, off3 + 0, none⟩) hb3).trans hc3
  rw [← hk0r, HFi.out, Nat.add_zero] at hc3'
  rw [e3] at hcr0
  have hk00 : (0 : Int) ≤ (k0 : Int) := by omega
  have hk01 : (k0 : Int) < (n : Int) := by omega
  clear hk0 hk0r hk0l hc3 hb3 e3
  go_wp2
  go_quiet (fail)
  clear hq0 hcr0 hc3' hc0 hc1 hk00 hk01 hk0n
  have HX5 := Lib.hid (HX4.out.drewN nq)
  have HZ5 := Lib.hid (HZ4.out.drewN nq)
  have HB5 := Lib.hid (below_drewN HB4.out nq)
  have hs5 : w.heap.size + 2 ≤ (w4.drewN nq).heap.size := hs4
  generalize w4.drewN nq = w5 at *
  have HN5 := Lib.hid (OwnI.nil_ w5 w5.heap.size)
  go_wp2
  go_loopw [7, 8, 38] (fun wv av v wr => ∃ (i n7 c7 n8 c8 : Nat) (A7 A8 : Option Addr), i ≤ 4 ∧ v = .int .i64 i ∧ wv = .slice A7 n7 c7 ∧ av = .slice A8 n8 c8 ∧ Hid ((witT xss q (x : Int) i).length = n7) ∧ Hid ((allT xss q i).length = n8) ∧ Hid (OwnI wr w5.heap.size A7 c7 (witT xss q (x : Int) i)) ∧ Hid (OwnI wr w5.heap.size A8 c8 (allT xss q i)) ∧ Hid (Below w5.heap.size w5 wr)) (fun _ _ v _ => 4 - (intOf v).toNat)
  case atStart => exact ⟨0, 0, 0, 0, 0, none, none, by omega, rfl, rfl, rfl, Lib.hid rfl, Lib.hid rfl, HN5, HN5, Lib.hid (Below.refl _ _)⟩
  case round =>
    obtain ⟨i, n7, c7, n8, c8, A7, A8, hi, rfl, rfl, rfl, HN7, HN8, HO7, HO8, HB⟩ := hrel
    have HBw := Lib.hid (HB5.out.trans (HB.out.mono HB5.out.size))
    have hszr := HB.out.size
    by_cases hi4 : i < 4
    · obtain ⟨k, hkn, hk, hkr, hkl⟩ := HQn.out i hi4
      have hqi := (HBw.out.cell (p := ⟨b2, off2 + i, none⟩) hb2l).trans (HQc.out i hi4)
      rw [hk] at hqi
      have hcr := (HBw.out.cell (p := ⟨b, off + k, none⟩) hbl).trans (HCl.out k hkn)
      have hc1 := (HX5.out.below HB.out).c1
      have HA1 := Lib.hid (show allT xss q (i + 1) = unionL (allT xss q i) (row xss k) from by rw [← hkr]; rfl)
      have HW1 := Lib.hid (show (hasB (row xss k) (x : Int) = true → witT xss q (x : Int) (i + 1) = unionL (witT xss q (x : Int) i) (row xss k)) ∧ (hasB (row xss k) (x : Int) = false → witT xss q (x : Int) (i + 1) = witT xss q (x : Int) i) from by
        rw [← hkr]
        exact ⟨fun h => if_pos h, fun h => if_neg (by rw [h]; simp)⟩)
      have HUa := Lib.hid (HUn.out wr HBw.out A8 n8 c8 (allT xss q i) HO8.out.rd HN8.out k hkn)
      have hi0 : (0 : Int) ≤ (i : Int) := by omega
      have hi1 : (i : Int) < 4 := by omega
      have hk0 : (0 : Int) ≤ (k : Int) := by omega
      have hk1 : (k : Int) < (n : Int) := by omega
      have HKn := Lib.hid hkn
      clear hk hkr hkl hkn
      go_wp2_with fail
      refine (HUa.out).mono ?_
      rintro e w6 ⟨⟨A9, n9, c9, rfl, hn9, ho9⟩, hb9⟩
      have HB6 := Lib.hid (HB.out.trans (hb9.mono hszr))
      have HBw6 := Lib.hid (HB5.out.trans (HB6.out.mono HB5.out.size))
      have hsz6 := HB6.out.size
      have HN9 := Lib.hid (show (allT xss q (i + 1)).length = n9 from by rw [HA1.out]; exact hn9)
      have HO9 := Lib.hid (show OwnI w6 w5.heap.size A9 c9 (allT xss q (i + 1)) from by rw [HA1.out]; exact ho9.lower hszr)
      have HO6 := Lib.hid (HO7.out.below hb9)
      have hco := HCo.out w6 HBw6.out k HKn.out
      clear hn9 ho9 hb9 hqi hcr hc1
      rcases hh : hasB (row xss k) (x : Int) with _ | _
      · have HNw := Lib.hid (show (witT xss q (x : Int) (i + 1)).length = n7 from by rw [HW1.out.2 hh]; exact HN7.out)
        have HOw := Lib.hid (show OwnI w6 w5.heap.size A7 c7 (witT xss q (x : Int) (i + 1)) from by rw [HW1.out.2 hh]; exact HO6.out)
        rw [hh] at hco
        have HCc := Lib.hid hco
        clear hco hh
        go_wp2_with fail
        refine (HCc.out).mono ?_
        rintro e w7 ⟨rfl, rfl⟩
        go_wp2
        go_roundw
        case rel => exact ⟨i + 1, n7, c7, n9, c9, A7, A9, by omega, by go_num, rfl, rfl, HNw, HN9, HOw, HO9, HB6⟩
        case measure => simp [intOf]; omega
      · have HWw := Lib.hid (HW1.out.1 hh)
        rw [hh] at hco
        have HCc := Lib.hid hco
        have HUb := Lib.hid (HUn.out w6 HBw6.out A7 n7 c7 (witT xss q (x : Int) i) HO6.out.rd HN7.out k HKn.out)
        clear hco hh
        go_wp2_with fail
        refine (HCc.out).mono ?_
        rintro e w7 ⟨rfl, rfl⟩
        go_wp2_with fail
        refine (HUb.out).mono ?_
        rintro e w7 ⟨⟨A10, n10, c10, rfl, hn10, ho10⟩, hb10⟩
        have HB7 := Lib.hid (HB6.out.trans (hb10.mono hsz6))
        have HNw := Lib.hid (show (witT xss q (x : Int) (i + 1)).length = n10 from by rw [HWw.out]; exact hn10)
        have HOw := Lib.hid (show OwnI w7 w5.heap.size A10 c10 (witT xss q (x : Int) (i + 1)) from by rw [HWw.out]; exact ho10.lower hsz6)
        have HOa := Lib.hid (HO9.out.below hb10)
        clear hn10 ho10 hb10
        go_wp2
        go_roundw
        case rel => exact ⟨i + 1, n10, c10, n9, c9, A10, A9, by omega, by go_num, rfl, rfl, HNw, HN9, HOw, HOa, HB7⟩
        case measure => simp [intOf]; omega
    · obtain rfl : i = 4 := by omega
      have HMi := Lib.hid (MinusSets_c wr A8 A7 n8 n7 c8 c7 (allT xss q 4) (witT xss q (x : Int) 4) HO8.out.rd HN8.out HO7.out.rd HN7.out)
      go_wp2_with fail
      refine (HMi.out).mono ?_
      rintro e w6 ⟨⟨A9, n9, c9, rfl, hn9, ho9⟩, hb9⟩
      rw [HMin.out] at hn9 ho9
      obtain rfl : n9 = 1 := hn9.symm
      have HB6 := Lib.hid (HB.out.trans (hb9.mono hszr))
      have hsz6 := HB6.out.size
      obtain ⟨g9, e9, _, _, hc9, _⟩ := ho9.at_ (k := 0) (by simp)
      have hc9' : w6.cell? ⟨g9, 0, none⟩ = some (.int .i64 (o : Int)) := hc9
      have hc0 := (HX5.out.below HB6.out).c0
      subst e9
      clear hn9 ho9 hb9 hc9
      go_wp2_with fail
      refine (identity_c w6 P (by omega)).mono ?_
      rintro e w7 ⟨⟨A10, n10, c10, rfl, hn10, ho10⟩, hb10⟩
      obtain rfl : P = n10 := by rw [← hn10]; simp [idL]
      have HB7 := Lib.hid (HB6.out.trans (hb10.mono hsz6))
      have hsz7 := HB7.out.size
      obtain ⟨gp, ep, hgp0, hgp1, hpx, hfx⟩ := ho10.at_ (k := x) (by rw [hn10]; exact hxP)
      subst ep
      have HS1 := Lib.hid (ho10.stored x (o : Int))
      obtain ⟨gp', ep, _, _, hpo, hfo⟩ := HS1.out.at_ (k := o) (by rw [List.length_set, hn10]; exact hoP')
      injection ep with ep
      injection ep with ep
      subst ep
      have HS2 := Lib.hid (show OwnI ((w7.setCell ⟨gp, x, none⟩ (.int .i64 (o : Int))).setCell ⟨gp, o, none⟩ (.int .i64 (x : Int))) w6.heap.size (some ⟨gp, 0, none⟩) c10 (swp P (x : Int) (o : Int)) from HS1.out.stored o (x : Int))
      have HB8 := Lib.hid ((HB7.out.setCell (p := ⟨gp, x, none⟩) (Nat.le_trans hsz6 hgp0) (.int .i64 (o : Int))).setCell (p := ⟨gp, o, none⟩) (Nat.le_trans hsz6 hgp0) (.int .i64 (x : Int)))
      have hx00 : (0 : Int) ≤ (x : Int) := by omega
      have hx01 : (x : Int) < (P : Int) := by omega
      have ho00 : (0 : Int) ≤ (o : Int) := by omega
      have ho01 : (o : Int) < (P : Int) := by omega
      have hc1 := (HX5.out.below HB8.out).c1
      obtain ⟨w8, hw8⟩ : ∃ w8, w8 = (w7.setCell ⟨gp, x, none⟩ (.int .i64 (o : Int))).setCell ⟨gp, o, none⟩ (.int .i64 (x : Int)) := ⟨_, rfl⟩
      rw [← hw8] at HS2 HB8
      have HW8 := Lib.hid hw8
      have HBw8 := Lib.hid (HB5.out.trans (HB8.out.mono HB5.out.size))
      have HCw := Lib.hid (HCp.out w8 HBw8.out)
      clear hn10 ho10 hb10 hw8 hc9' hc0
      go_wp2_with fail
      rw [← HW8.out]
      refine (HCw.out).mono ?_
      rintro e w9 ⟨⟨A11, n11, c11, R11, rfl, hn11, ho11⟩, hb11⟩
      obtain rfl : n = n11 := by
        have := HML.out 0
        rw [HM0.out] at this
        omega
      have hn0 : 0 < n := by
        obtain ⟨k, hk, _⟩ := HQn.out 0 (by omega)
        omega
      obtain ⟨G, eG, _, _, _, _⟩ := ho11.at_ (k := 0) (by omega)
      subst eG
      have HB9 := Lib.hid (show Below w8.heap.size w8 w9 from hb11)
      have HO11 := Lib.hid (show OwnM w9 w8.heap.size (some ⟨G, 0, none⟩) c11 R11 (spM P xss q 0) from by rw [HM0.out]; exact ho11)
      clear hn11 ho11 hb11 hc1 hpx hfx hpo hfo
      go_wp2
      go_loopw [78] (fun v wr => ∃ (i : Nat) (R' : Spine), i ≤ 4 ∧ v = .int .i64 i ∧ Hid (OwnM wr w8.heap.size (some ⟨G, 0, none⟩) c11 R' (spM P xss q i)) ∧ Hid (Below w8.heap.size w8 wr)) (fun v _ => 4 - (intOf v).toNat)
      case atStart => exact ⟨0, R11, by omega, rfl, HO11, HB9⟩
      case round =>
        obtain ⟨i, R', hi, rfl, HO, HBr⟩ := hrel
        have HBw := Lib.hid (HBw8.out.trans (HBr.out.mono HBw8.out.size))
        have HB5r := Lib.hid (HB8.out.trans (HBr.out.mono HB8.out.size))
        have hszr := HBr.out.size
        by_cases hi4 : i < 4
        · obtain ⟨k, hkn, hk, hkr, hkl⟩ := HQn.out i hi4
          have hqi := (HBw.out.cell (p := ⟨b2, off2 + i, none⟩) hb2l).trans (HQc.out i hi4)
          rw [hk] at hqi
          have hkm : k < (spM P xss q i).length := by rw [HML.out i]; exact hkn
          have hold := HMo.out i k hi4 hk hkn
          obtain ⟨_, eG, _, _, hcG, _⟩ := HO.out.at_ hkm
          injection eG with eG
          injection eG with eG
          subst eG
          have hrow := HO.out.rows k hkm
          rw [hold] at hcG hrow
          rw [hkl] at hcG
          have HSet := Lib.hid (HMs.out i k hi4 hk hkn)
          have HIg := Lib.hid (HIm.out wr (some ⟨gp, 0, none⟩) (R' k).1 c10 (R' k).2 k hkn (HS2.out.below HBr.out).rd hrow.rd)
          have HKm := Lib.hid hkm
          have hi0 : (0 : Int) ≤ (i : Int) := by omega
          have hi1 : (i : Int) < 4 := by omega
          have hk0 : (0 : Int) ≤ (k : Int) := by omega
          have hk1 : (k : Int) < (n : Int) := by omega
          clear hk hkr hkl hkm hold hrow
          go_wp2_with fail
          refine (HIg.out).mono ?_
          rintro e w10 ⟨⟨A12, n12, c12, rfl, hn12, ho12⟩, hb12⟩
          obtain ⟨_, eG, _, _, hcG2, hfG2⟩ := (HO.out.below hb12).at_ HKm.out
          injection eG with eG
          injection eG with eG
          subst eG
          have hOn := (HO.out.below hb12).set_row HKm.out (ho12.lower hszr) (fun k' hk' _ g e => later_apart HO.out ho12 k' hk' g e)
          rw [hn12, HSet.out] at hOn
          have HOn := Lib.hid hOn
          have HGl := Lib.hid (HO.out.lt rfl).1
          have HBn := Lib.hid ((HBr.out.trans (hb12.mono hszr)).setCell (p := ⟨G, k, none⟩) HGl.out (.slice A12 n12 c12))
          clear hOn hn12 ho12 hb12 hqi hcG
          go_wp2
          go_roundw
          case rel => exact ⟨i + 1, _, by omega, by go_num, HOn, HBn⟩
          case measure => simp [intOf]; omega
        · obtain rfl : i = 4 := by omega
          have HSw := Lib.hid (HSo.out wr (some ⟨G, 0, none⟩) c11 R' HO.out.rd)
          have hc0 := (HX5.out.below HB5r.out).c0
          have HZr := Lib.hid (HZ5.out.step (lo := w5.heap.size) (by omega) HB5r.out)
          have hszr' : w.heap.size + 2 ≤ wr.heap.size := by have := HB5r.out.size; omega
          go_wp2_with fail
          refine (HSw.out).mono ?_
          rintro e w9 ⟨⟨A9, n9, c9, R9, rfl, hn9, ho9⟩, hb9⟩
          have HZ9 := Lib.hid (HZr.out.step (lo := wr.heap.size) (by omega) hb9)
          have HB9 := Lib.hid (HBw.out.trans (hb9.mono HBw.out.size))
          have HO9 := Lib.hid (show OwnM w9 (w.heap.size + 1 + 1) A9 c9 R9 (lst) from ho9.lower (by omega))
          have HN9 := Lib.hid hn9
          clear hb9 ho9 hn9
          generalize lst = lst at *
          generalize (P : Int) = ptz at *
          have rz := HZ9.out
          have z0 := rz.c0
          have z1 := rz.c1
          have y0 := rz.f0
          have y1 := rz.f1
          clear rz
          go_wp2
          obtain ⟨r0, r1⟩ := HZ9.out.read (.int .i64 ptz) (.slice A9 n9 c9)
          refine bodyPost_ret (v := .tuple #[.agg #[.int .i64 ptz, .slice A9 n9 c9], .int .i64 0]) (by simp [results, Tryz.results16, go_sem, r0, r1]) rfl ⟨⟨A9, n9, c9, R9, rfl, HN9.out, own_set2 HO9.out (by omega) _ _⟩, below_set2 HB9.out (by omega)⟩
end Go.Proofs.YtmmkmkbpgcbehaaGreat
