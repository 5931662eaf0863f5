/-
  SwitchPasch of the reference. Conditions: those of each theorem.
-/
import Derived.Test.YtmmkmkbpgcbehaaGreatPswT
import Derived.Test.YtmmkmkbpgcbehaaGreatPswU
import Derived.Test.YtmmkmkbpgcbehaaGreatPasT
import Derived.Test.YtmmkmkbpgcbehaaGreatMake
namespace Go.Proofs.YtmmkmkbpgcbehaaGreat
open Go.RowKit
set_option linter.unusedVariables false
set_option linter.unusedSimpArgs false

theorem OwnI.twoW {w : World} {lo : Nat} (x y : Int) (h : lo ≤ w.heap.size) : OwnI (w.alloc (.cells #[.int .i64 x, .int .i64 y] 2)) lo (some ⟨w.heap.size, 0, none⟩) 2 [x, y] :=
  World.ownsRow_lit (e := 2) (size := 1) w #[.int .i64 x, .int .i64 y] 2 h (by unfold maxLen; omega) rfl
theorem nilCap_pos {w : World} {A : Option Addr} {c n : Nat} {R : Spine} {L : List (List Int)} (hr : RdM w A c R L) (hn : L.length = n) (h : ∀ k, k < L.length → 0 < (row L k).length) : NilCap R n := fun k hk e => by
  obtain ⟨b, off, e2, _⟩ := (hr.rows k (by omega)).at_ 0 (h k (by omega))
  rw [e] at e2
  cases e2

set_option maxRecDepth 100000 in
set_option maxHeartbeats 16000000 in
theorem specSwitchPasch_c (w : World) (p : Int) (hp : -9223372036854775808 ≤ p ∧ p ≤ 9223372036854775807) (A : Option Addr) (n c : Nat) (R : Spine) (xss : List (List Int)) (hr : RdM w A c R xss) (hn : xss.length = n) (hw : WfM xss) (hz : (n : Int) + (tot xss : Nat) ≤ 1048576)
    (B : Option Addr) (m d : Nat) (q : List Int) (hy : RdI w B d q) (hm : q.length = m) (hwy : WfL q) (hzy : (m : Int) ≤ 1048576) :
    Calls Tryz.prog 14 #[.agg #[.int .i64 p, .slice A n c], .slice B m d] w (PostDC w (spP p xss q) (spX p xss q) (spC p xss q)) := by
  clear hw hz hwy
  have hzD := zeroD
  obtain ⟨wa, hwa⟩ : ∃ wa, wa = (w.alloc (.cells #[.int .i64 p, .slice A n c] 28)).alloc (.cells #[.int .i64 0, .slice none 0 0] 28) := ⟨_, rfl⟩
  have hXa : BoxD wa w.heap.size p A n c := by rw [hwa]; exact (BoxD.made _ _ _ _ _ _).below (below_boxed _ _)
  have hZa : RBox wa (w.heap.size + 1) := by
    rw [hwa]
    have := RBox.made (w.alloc (.cells #[.int .i64 p, .slice A n c] 28)) 28
    simpa using this
  have hBa : Below w.heap.size w wa := by rw [hwa]; exact (below_boxed _ _).alloc (by simp) _
  have hsa : w.heap.size + 2 ≤ wa.heap.size := by rw [hwa]; simp
  have HXa := Lib.hid hXa
  have HZa := Lib.hid hZa
  have HBa := Lib.hid hBa
  have hO := l11Ok_c wa w.heap.size p A n c R xss hXa (hr.below hBa) hn
  rw [hwa] at hO
  rcases hd : tripB p xss with _ | _
  · have h1 : spC p xss q = 1 := if_neg (by rw [hd]; simp)
    obtain ⟨e1, e2⟩ := spX_no (p := p) (xss := xss) (q := q) (by omega)
    rw [e1, e2, h1]
    rw [hd] at hO
    have HO := Lib.hid hO
    have HWa := Lib.hid hwa
    clear hO hwa hXa hZa hBa hr hn hp hd hy hm h1 e1 e2
    go_enter Tryz.func14, Tryz.ntmps14
    go_wp2_with fail
    refine (HO.out).mono ?_
    rintro e w2 ⟨rfl, hb2⟩
    rw [← HWa.out] at hb2
    have HZ2 := Lib.hid (HZa.out.step (lo := wa.heap.size) (by omega) hb2)
    have HB2 := Lib.hid (HBa.out.trans (hb2.mono HBa.out.size))
    clear hb2
    have rz := HZ2.out
    have z0 := rz.c0
    have z1 := rz.c1
    have y0 := rz.f0
    have y1 := rz.f1
    clear rz
    go_wp2
    obtain ⟨r0, r1⟩ := HZ2.out.read (.int .i64 0) (.slice none 0 0)
    refine bodyPost_ret (v := .tuple #[.agg #[.int .i64 0, .slice none 0 0], .int .i64 1]) (by simp [results, Tryz.results14, go_sem, r0, r1]) rfl ⟨⟨none, 0, 0, fun _ => (none, 0), rfl, rfl, OwnM.nil_ _ _ _⟩, below_set2 HB2.out (by omega)⟩
  have hTd := trip_dsg hd
  obtain ⟨P, rfl⟩ : ∃ P : Nat, p = (P : Int) := ⟨p.toNat, by have := hTd.1.1.1; omega⟩
  obtain ⟨hD, hT⟩ := trip_sys hd
  have hn128 : n ≤ 128 := by have := hD.2.1; omega
  have hP32 : P ≤ 32 := by have := hD.1.2; omega
  rw [hd] at hO
  have HO := Lib.hid hO
  have HWa := Lib.hid hwa
  have HPs := Lib.hid (fun (W : World) (hX : BoxD W w.heap.size (P : Int) A n c) (hb : Below w.heap.size w W) => l11Paschs_c W w.heap.size P A n c R xss hX (hr.below hb) hn hD hT)
  have HFd := Lib.hid (fun (W : World) (hb : Below w.heap.size w W) (A7 : Option Addr) (n7 c7 : Nat) (R7 : Spine) (ho : RdM W A7 c7 R7 (qdR xss)) (hl : (qdR xss).length = n7) => (show Calls Tryz.prog 27 #[.slice A7 n7 c7, .slice B m d] W (EndQ (.tuple #[.int .i64 ((loI (qdR xss) q : Nat) : Int), .bool (fdB (qdR xss) q)]) W) from
    l05Find_c W A7 n7 c7 R7 (qdR xss) ho hl (qdR_strict xss) (by have := qdR_len (xss := xss) (by omega); omega) B m d q (hy.below hb) hm))
  rcases hf : fdB (qdR xss) q with _ | _
  · have h1 : spC (P : Int) xss q = 6 := (if_pos hd).trans (if_neg (by rw [hf]; simp))
    obtain ⟨e1, e2⟩ := spX_no (p := (P : Int)) (xss := xss) (q := q) (by omega)
    rw [e1, e2, h1]
    rw [hf] at HFd
    generalize loI (qdR xss) q = lq at *
    clear hO hwa hXa hZa hBa hr hn hp hd hy hm h1 e1 e2 hf hD hT hTd
    go_enter Tryz.func14, Tryz.ntmps14
    go_wp2_with fail
    refine (HO.out).mono ?_
    rintro e w2 ⟨rfl, hb2⟩
    rw [← HWa.out] at hb2
    have HX2 := Lib.hid (HXa.out.below hb2)
    have HZ2 := Lib.hid (HZa.out.step (lo := wa.heap.size) (by omega) hb2)
    have HB2 := Lib.hid (HBa.out.trans (hb2.mono HBa.out.size))
    have hs2 : w.heap.size + 2 ≤ w2.heap.size := by have := hb2.size; omega
    clear hb2
    go_wp2_with fail
    refine (HPs.out w2 HX2.out HB2.out).mono ?_
    rintro e w3 ⟨⟨A3, n3, c3, R3, rfl, hn3, ho3⟩, hb3⟩
    have HX3 := Lib.hid (HX2.out.below hb3)
    have HZ3 := Lib.hid (HZ2.out.step (lo := w2.heap.size) (by omega) hb3)
    have HB3 := Lib.hid (HB2.out.trans (hb3.mono HB2.out.size))
    have hs3 : w.heap.size + 2 ≤ w3.heap.size := by have := hb3.size; omega
    have HHw := Lib.hid (HFd.out w3 HB3.out A3 n3 c3 R3 ho3.rd hn3)
    clear hb3 ho3 hn3
    go_wp2_with fail
    refine (HHw.out).mono ?_
    rintro e w' ⟨rfl, q4, rfl⟩
    have HX4 := Lib.hid (HX3.out.drewN q4)
    have HZ4 := Lib.hid (HZ3.out.drewN q4)
    have HB4 := Lib.hid (below_drewN HB3.out q4)
    have hs4 : w.heap.size + 2 ≤ (w3.drewN q4).heap.size := hs3
    generalize w3.drewN q4 = w4 at *
    have rz := HZ4.out
    have z0 := rz.c0
    have z1 := rz.c1
    have y0 := rz.f0
    have y1 := rz.f1
    clear rz
    go_wp2
    obtain ⟨r0, r1⟩ := HZ4.out.read (.int .i64 0) (.slice none 0 0)
    refine bodyPost_ret (v := .tuple #[.agg #[.int .i64 0, .slice none 0 0], .int .i64 6]) (by simp [results, Tryz.results14, go_sem, r0, r1]) rfl ⟨⟨none, 0, 0, fun _ => (none, 0), rfl, rfl, OwnM.nil_ _ _ _⟩, below_set2 HB4.out (by omega)⟩
  obtain ⟨h0, hsp, hsx⟩ := spX_eq (p := (P : Int)) hd hf
  rw [hsp, hsx, h0, show ((P : Int)).toNat = P from rfl]
  have hq : q ∈ qdR xss := of_decide_eq_true hf
  obtain ⟨hq4, _, hqlt⟩ := quad_lt hT hq
  obtain rfl : m = 4 := by omega
  obtain ⟨hmin, hOp, hx0, hxo, hoP⟩ := sp_points hD hT hq
  obtain ⟨x, hx⟩ : ∃ x : Nat, spF xss q = (x : Int) := ⟨(spF xss q).toNat, by omega⟩
  obtain ⟨o, ho⟩ : ∃ o : Nat, spO xss q = (o : Int) := ⟨(spO xss q).toNat, by omega⟩
  rw [hf] at HFd
  have HQn := Lib.hid (fun (i : Nat) (hi : i < 4) => (show ∃ k : Nat, k < n ∧ nth q i = (k : Int) ∧ qRw xss q i = row xss k ∧ (row xss k).length = 3 from by
    obtain ⟨_, h2, h3, h5⟩ := qRw_set hT hq hi
    refine ⟨(nth q i).toNat, by omega, by omega, rfl, hT.three _ h2⟩))
  have HAl := Lib.hid (fun (i : Nat) (hi : i ≤ 4) => (show (allT xss q i).length ≤ 32 from by
    have := setB_len (P := 32) (allT_set hT hq i hi).1; omega))
  have HFi := Lib.hid (show nth (qRw xss q 0) 0 = (x : Int) from hx)
  have HUn := Lib.hid (fun (W : World) (hb : Below w.heap.size w W) (i : Nat) (hi : i < 4) (lo : Nat) (A7 : Option Addr) (n7 c7 : Nat) (hx7 : OwnI W lo A7 c7 (allT xss q i)) (hn7 : (allT xss q i).length = n7) (k : Nat) (hk : k < n) (hkr : qRw xss q i = row xss k) => (show Calls Tryz.prog 28 #[.slice A7 n7 c7, .slice (R k).1 3 (R k).2] W (PostS W (allT xss q (i + 1))) from by
    have := specUnionSets_c W A7 (R k).1 n7 3 c7 (R k).2 (allT xss q i) (row xss k) hx7.rd hn7 ((hr.below hb).rows k (by omega)) (hT.three k (by omega)) hx7.nil_cap (allT_set hT hq i (by omega)).1 (setQ (hT.rows k (by omega)))
    rwa [← hkr] at this))
  have HLa := Lib.hid (show lastT xss q (x : Int) (allT xss q 4) (allT xss q 4).length = (o : Int) from by
    rw [hx, ho] at hOp
    exact last_all hT hq hOp (by omega))
  have HHs := Lib.hid (fun (W : World) (hb : Below w.heap.size w W) (k : Nat) (hk : k < n) (z : Int) => has_c W (R k).1 3 (R k).2 (row xss k) z ((hr.below hb).rows k (by omega)) (hT.three k (by omega)))
  have HHq := Lib.hid (fun (W : World) (hb : Below w.heap.size w W) (z : Int) => has_c W B 4 d q z (hy.below hb) hm)
  have HRf := Lib.hid (fun (k : Nat) (hk : k < n) (hh : hasB q (k : Int) = true) => (show (hasB (row xss k) (x : Int) = true → spRow P xss q k = putL (minusL (row xss k) [(x : Int), (o : Int)]) (o : Int)) ∧ (hasB (row xss k) (x : Int) = false → spRow P xss q k = putL (minusL (row xss k) [(x : Int), (o : Int)]) (x : Int)) from by
    rw [hx, ho] at hOp
    rw [hx, ho] at hxo
    rw [ho] at hoP
    exact rf_row hP32 hT hOp (by omega) hxo hoP hx ho (by omega) hh))
  have HRn := Lib.hid (fun (k : Nat) (hk : k < n) (hh : hasB q (k : Int) = false) => (show spRow P xss q k = row xss k from by unfold spRow; rw [if_neg (by rw [hh]; simp)]))
  have HMi := Lib.hid (fun (W : World) (hb : Below w.heap.size w W) (k : Nat) (hk : k < n) (g : Nat) (hl : RdI W (some ⟨g, 0, none⟩) 2 [(x : Int), (o : Int)]) => (show Calls Tryz.prog 30 #[.slice (R k).1 3 (R k).2, .slice (some ⟨g, 0, none⟩) 2 2] W (PostS W (minusL (row xss k) [(x : Int), (o : Int)])) from by
    rw [hx, ho] at hxo
    rw [ho] at hoP
    exact specMinusSets_c W (R k).1 (some ⟨g, 0, none⟩) 3 2 (R k).2 2 (row xss k) [(x : Int), (o : Int)] ((hr.below hb).rows k (by omega)) (hT.three k (by omega)) hl rfl (setQ (hT.rows k (by omega))) (setB_iff.2 ⟨by simp; omega, fun z hz => by simp at hz; omega, by omega, by omega⟩)))
  have HMl := Lib.hid (fun (k : Nat) (hk : k < n) => (show (minusL (row xss k) [(x : Int), (o : Int)]).length ≤ 32 from by unfold minusL; exact filtL_len _ _ _))
  have HSl := Lib.hid (show (spL P xss q).length = n from by rw [spL_len]; exact hn)
  have HSt := Lib.hid (fun (i : Nat) (hi : i < n) => spL_take (P := P) (xss := xss) (q := q) (i := i) (by omega))
  have HSo := Lib.hid (fun (W : World) (A7 : Option Addr) (c7 : Nat) (S : Spine) (h : RdM W A7 c7 S (spL P xss q)) => (show Calls Tryz.prog 32 #[.slice A7 n c7] W (PostM W (sortLL (spL P xss q))) from by
    have hl : (spL P xss q).length = n := by rw [spL_len]; exact hn
    have hrow : ∀ k, k < n → row (spL P xss q) k = spRow P xss q k := fun k hk => by rw [row_eq (by omega)]; simp [spL]
    exact l10Sort_c W A7 n c7 S (spL P xss q) h hl (nilCap_pos h hl (fun k hk => by rw [hrow k (by omega)]; exact spRow_pos hT (by omega))) (by omega) (fun k hk => by rw [hrow k hk]; have := spRow_len (P := P) hT (q := q) (k := k) (by omega); omega)))
  obtain ⟨b, off, rfl, hbl, hcl⟩ := hr.openT (by
    have := (qRw_set hT hq (i := 0) (by omega)).2.1
    omega)
  have HCl := Lib.hid (fun (k : Nat) (hk : k < n) => (show w.cell? ⟨b, off + k, none⟩ = some (.slice (R k).1 3 (R k).2) from by have := hcl k (by omega); rwa [hT.three k (by omega)] at this))
  have HRr := Lib.hid (fun (k : Nat) (hk : k < n) => hr.rows k (by omega))
  have HTh := Lib.hid (fun (k : Nat) (hk : k < n) => hT.three k (by omega))
  obtain ⟨b2, off2, rfl, hb2l, hc2l⟩ : ∃ b2 off2, B = some ⟨b2, off2, none⟩ ∧ b2 < w.heap.size ∧ ∀ i, i < 4 → w.cell? ⟨b2, off2 + i, none⟩ = some (.int .i64 (nth q i)) := by
    obtain ⟨b2, off2, e2, hb2, _⟩ := hy.at_ 0 (by omega)
    refine ⟨b2, off2, e2, hb2, fun i hi => ?_⟩
    obtain ⟨b3, off3, e3, _, hc3⟩ := hy.at_ i (by omega)
    rw [e2] at e3
    injection e3 with e3
    injection e3 with e3 e4
    subst e3 e4
    exact hc3
  have HQc := Lib.hid hc2l
  have hxP : x < P := by omega
  have hoP' : o < P := by omega
  have hxo' : x < o := by omega
  clear hO hwa hXa hZa hBa hr hn hp hd hy hm h0 hsp hsx hf hD hT hTd hq hq4 hqlt hmin hOp hx0 hxo hoP hx ho hcl hc2l
  generalize sortLL (spL P xss q) = lst at *
  generalize loI (qdR xss) q = lq at *
  go_enter Tryz.func14, Tryz.ntmps14
  go_wp2_with fail
  refine (HO.out).mono ?_
  rintro e w2 ⟨rfl, hb2⟩
  rw [← HWa.out] at hb2
  have HX2 := Lib.hid (HXa.out.below hb2)
  have HZ2 := Lib.hid (HZa.out.step (lo := wa.heap.size) (by omega) hb2)
  have HB2 := Lib.hid (HBa.out.trans (hb2.mono HBa.out.size))
  have hs2 : w.heap.size + 2 ≤ w2.heap.size := by have := hb2.size; omega
  clear hb2
  go_wp2_with fail
  refine (HPs.out w2 HX2.out HB2.out).mono ?_
  rintro e w3 ⟨⟨A3, n3, c3, R3, rfl, hn3, ho3⟩, hb3⟩
  have HX3 := Lib.hid (HX2.out.below hb3)
  have HZ3 := Lib.hid (HZ2.out.step (lo := w2.heap.size) (by omega) hb3)
  have HB3 := Lib.hid (HB2.out.trans (hb3.mono HB2.out.size))
  have hs3 : w.heap.size + 2 ≤ w3.heap.size := by have := hb3.size; omega
  have HHw := Lib.hid (HFd.out w3 HB3.out A3 n3 c3 R3 ho3.rd hn3)
  clear hb3 ho3 hn3
  go_wp2_with fail
  refine (HHw.out).mono ?_
  rintro e w' ⟨rfl, q4, rfl⟩
  have HX4 := Lib.hid (HX3.out.drewN q4)
  have HZ4 := Lib.hid (HZ3.out.drewN q4)
  have HB4 := Lib.hid (below_drewN HB3.out q4)
  have hs4 : w.heap.size + 2 ≤ (w3.drewN q4).heap.size := hs3
  generalize w3.drewN q4 = w4 at *
  have hb4lo := HB4.out.size
  have hc1 := HX4.out.c1
  obtain ⟨k0, hk0n, hk0, hk0r, hk0l⟩ := HQn.out 0 (by omega)
  have hq0 := (HB4.out.cell (p := ⟨b2, off2 + 0, none⟩) hb2l).trans (HQc.out 0 (by omega))
  rw [hk0, Nat.add_zero] at hq0
  have hcr0 := (HB4.out.cell (p := ⟨b, off + k0, none⟩) hbl).trans (HCl.out k0 hk0n)
  obtain ⟨b3, off3, e3, hb3, hc3⟩ := (HRr.out k0 hk0n).at_ 0 (by rw [hk0l]; omega)
  rw [← hk0r, HFi.out, Nat.add_zero] at hc3
  rw [e3] at hcr0
  have HC3 := Lib.hid hc3
  have hk00 : (0 : Int) ≤ (k0 : Int) := by omega
  have hk01 : (k0 : Int) < (n : Int) := by omega
  clear hk0 hk0r hk0l hc3 e3
  go_wp2
  go_quiet (fail)
  clear hq0 hcr0 hc1 hk00 hk01 hk0n
  have HX5 := Lib.hid (HX4.out.drewN nq)
  have HZ5 := Lib.hid (HZ4.out.drewN nq)
  have HB5 := Lib.hid (below_drewN HB4.out nq)
  have hs5 : w.heap.size + 2 ≤ (w4.drewN nq).heap.size := hs4
  generalize w4.drewN nq = w5 at *
  have HN5 := Lib.hid (OwnI.lit0 w5 (Nat.le_refl w5.heap.size))
  have HE5 := Lib.hid ((Below.refl w5.heap.size w5).alloc (Nat.le_refl _) (.cells #[] 2))
  go_wp2
  go_loopw [9, 10] (fun av v wr => ∃ (i n8 c8 : Nat) (A8 : Option Addr), i ≤ 4 ∧ v = .int .i64 i ∧ av = .slice A8 n8 c8 ∧ Hid ((allT xss q i).length = n8) ∧ Hid (OwnI wr w5.heap.size A8 c8 (allT xss q i)) ∧ Hid (Below w5.heap.size w5 wr)) (fun _ v _ => 4 - (intOf v).toNat)
  case atStart => exact ⟨0, 0, 0, _, by omega, rfl, rfl, Lib.hid rfl, HN5, HE5⟩
  case round =>
    obtain ⟨i, n8, c8, A8, hi, rfl, rfl, HN8, HO8, HB⟩ := hrel
    have HBw := Lib.hid (HB5.out.trans (HB.out.mono HB5.out.size))
    have hszr := HB.out.size
    by_cases hi4 : i < 4
    · obtain ⟨k, hkn, hk, hkr, hkl⟩ := HQn.out i hi4
      have hqi := (HBw.out.cell (p := ⟨b2, off2 + i, none⟩) hb2l).trans (HQc.out i hi4)
      rw [hk] at hqi
      have hcr := (HBw.out.cell (p := ⟨b, off + k, none⟩) hbl).trans (HCl.out k hkn)
      have hxr := HX5.out.below HB.out
      have hc1 := hxr.c1
      have HUa := Lib.hid (HUn.out wr.drew HBw.out.drew i hi4 w5.heap.size A8 n8 c8 (HO8.out.drewN 1) HN8.out k hkn hkr)
      have hi0 : (0 : Int) ≤ (i : Int) := by omega
      have hi1 : (i : Int) < 4 := by omega
      have hk0 : (0 : Int) ≤ (k : Int) := by omega
      have hk1 : (k : Int) < (n : Int) := by omega
      have hS : wr.drew.cell? ⟨w.heap.size, 1, none⟩ = some (.slice (some ⟨b, off, none⟩) n c) ∧ wr.drew.cell? ⟨b2, off2 + i, none⟩ = some (.int .i64 (k : Int)) ∧ wr.drew.cell? ⟨b, off + k, none⟩ = some (.slice (R k).1 3 (R k).2) := ⟨hc1, hqi, hcr⟩
      have hl1 : w.heap.size < wr.drew.heap.size := hxr.lt
      have hl2 : b2 < wr.drew.heap.size := by show b2 < wr.heap.size; omega
      have hl3 : b < wr.drew.heap.size := by show b < wr.heap.size; omega
      clear hk hkr hkl hxr
      go_wp2
      clear hc1 hqi hcr
      go_region_held3 (fun w' => w'.cell? ⟨w.heap.size, 1, none⟩ = some (.slice (some ⟨b, off, none⟩) n c) ∧ w'.cell? ⟨b2, off2 + i, none⟩ = some (.int .i64 (k : Int)) ∧ w'.cell? ⟨b, off + k, none⟩ = some (.slice (R k).1 3 (R k).2)) (first | exact hS | exact hS6)
        (first | (go_at_call 28; (with_reducible refine (HUa.out).mono ?_); rintro e w6 ⟨⟨A9, n9, c9, rfl, hn9, ho9⟩, hb9⟩; have hS6 := keepT hb9 hl1 hl2 hl3 hS) | fail "no arm")
      have HB6 := Lib.hid (show Below w5.heap.size w5 w6 from HB.out.drew.trans (hb9.mono hszr))
      have HN9 := Lib.hid hn9
      have HO9 := Lib.hid (show OwnI w6 w5.heap.size A9 c9 (allT xss q (i + 1)) from ho9.lower hszr)
      clear hn9 ho9 hb9 hS hS6
      go_wp2
      go_roundw
      case rel => exact ⟨i + 1, n9, c9, A9, by omega, by go_num, rfl, HN9, HO9, HB6⟩
      case measure => simp [intOf]; omega
    · obtain rfl : i = 4 := by omega
      have hc3 := (HBw.out.cell (p := ⟨b3, off3, none⟩) hb3).trans HC3.out
      have hn832 : n8 ≤ 32 := by rw [← HN8.out]; exact HAl.out 4 (by omega)
      obtain ⟨L, hL⟩ : ∃ L, L = allT xss q 4 := ⟨_, rfl⟩
      rw [← hL] at HLa HN8 HO8
      rw [HN8.out] at HLa
      have HOA := Lib.hid HO8.out
      clear hL HO8
      obtain ⟨wo, rfl⟩ : ∃ wo, wo = wr := ⟨_, rfl⟩
      have HXo := Lib.hid (HX5.out.below HB.out)
      have HZo := Lib.hid (HZ5.out.step (lo := w5.heap.size) (by omega) HB.out)
      have hso : w.heap.size + 2 ≤ wo.heap.size := by omega
      go_wp2
      clear hc3
      go_loopw [12, 13, 14, 15] (fun lv v _ _ wr => ∃ i : Nat, i ≤ n8 ∧ v = .int .i64 i ∧ lv = .int .i64 (lastT xss q (x : Int) L i) ∧ Qt wo wr) (fun _ v _ _ _ => n8 - (intOf v).toNat)
      case atStart => exact ⟨0, Nat.zero_le _, rfl, rfl, Qt.refl _⟩
      case round =>
        obtain ⟨i, hi, rfl, rfl, ⟨q2, rfl⟩⟩ := hrel
        by_cases hin : i < n8
        · have hix : i < L.length := by rw [HN8.out]; exact hin
          obtain ⟨g8, e8, _, _, hcz, _⟩ := HOA.out.at_ hix
          subst e8
          obtain ⟨z, hz⟩ : ∃ z, z = nth L i := ⟨_, rfl⟩
          rw [← hz] at hcz
          have HZz := Lib.hid hz
          have hcz' : (wo.drewN q2).cell? ⟨g8, i, none⟩ = some (.int .i64 z) := hcz
          have hi0 : (0 : Int) ≤ (i : Int) := by omega
          have hi1 : (i : Int) < (n8 : Int) := by omega
          have HCz := Lib.hid hcz
          clear hz hcz
          go_wp2
          clear hcz'
          go_loopw [14, 15] (fun av kv wr => ∃ j : Nat, j ≤ 4 ∧ kv = .int .i64 j ∧ av = .bool (apTo xss q (x : Int) z j) ∧ Qt wo wr) (fun _ v _ => 4 - (intOf v).toNat)
          case atStart => exact ⟨0, by omega, rfl, by rw [apTo_zero]; congr 1; by_cases e : z = (x : Int) <;> simp [e], ⟨q2, rfl⟩⟩
          case round =>
            obtain ⟨j, hj, rfl, rfl, ⟨q3, rfl⟩⟩ := hrel
            by_cases hj4 : j < 4
            · obtain ⟨k, hkn, hk, hkr, hkl⟩ := HQn.out j hj4
              have hqi := (HBw.out.cell (p := ⟨b2, off2 + j, none⟩) hb2l).trans (HQc.out j hj4)
              rw [hk] at hqi
              have hcr := (HBw.out.cell (p := ⟨b, off + k, none⟩) hbl).trans (HCl.out k hkn)
              have hc1 := HXo.out.c1
              have hcz := HCz.out
              have HSu := Lib.hid (apTo_succ xss q (x : Int) z j)
              rw [hkr] at HSu
              have H1 := Lib.hid (fun (a : Nat) => HHs.out (wo.drewN a) (below_drewN HBw.out a) k hkn (x : Int))
              have H2 := Lib.hid (fun (a : Nat) => HHs.out (wo.drewN a) (below_drewN HBw.out a) k hkn z)
              have hj0 : (0 : Int) ≤ (j : Int) := by omega
              have hj1 : (j : Int) < 4 := by omega
              have hk0 : (0 : Int) ≤ (k : Int) := by omega
              have hk1 : (k : Int) < (n : Int) := by omega
              clear hk hkr hkl
              rcases hap : apTo xss q (x : Int) z j with _ | _
              · rw [hap] at HSu
                clear hap
                go_wp2
                go_quiet (fail)
                clear hqi hcr hc1 hcz
                go_wp2
                go_roundw
                case rel => exact ⟨j + 1, by omega, by go_num, by rw [HSu.out]; rfl, ⟨q3 + nq, by first | rfl | rw [World.drewN_drewN]⟩⟩
                case measure => simp [intOf]; omega
              · rw [hap] at HSu
                clear hap
                rcases h1 : hasB (row xss k) (x : Int) with _ | _
                · rw [h1] at HSu H1
                  clear h1
                  go_wp2
                  go_quiet ((go_at_call 29; (with_reducible exact quiet_drN (H1.out _))))
                  clear hqi hcr hc1 hcz
                  go_wp2
                  go_roundw
                  case rel => exact ⟨j + 1, by omega, by go_num, by rw [HSu.out]; rfl, ⟨q3 + nq, by first | rfl | rw [World.drewN_drewN]⟩⟩
                  case measure => simp [intOf]; omega
                · rw [h1] at HSu H1
                  clear h1
                  rcases h2 : hasB (row xss k) z with _ | _
                  · rw [h2] at HSu H2
                    clear h2
                    go_wp2
                    go_quiet ((go_at_call 29; first | (with_reducible exact quiet_drN (H1.out _)) | (with_reducible exact quiet_drN (H2.out _))))
                    clear hqi hcr hc1 hcz
                    go_wp2
                    go_roundw
                    case rel => exact ⟨j + 1, by omega, by go_num, by rw [HSu.out]; rfl, ⟨q3 + nq, by first | rfl | rw [World.drewN_drewN]⟩⟩
                    case measure => simp [intOf]; omega
                  · rw [h2] at HSu H2
                    clear h2
                    go_wp2
                    go_quiet ((go_at_call 29; first | (with_reducible exact quiet_drN (H1.out _)) | (with_reducible exact quiet_drN (H2.out _))))
                    clear hqi hcr hc1 hcz
                    go_wp2
                    go_roundw
                    case rel => exact ⟨j + 1, by omega, by go_num, by rw [HSu.out]; rfl, ⟨q3 + nq, by first | rfl | rw [World.drewN_drewN]⟩⟩
                    case measure => simp [intOf]; omega
            · obtain rfl : j = 4 := by omega
              have hcz' : (wo.drewN q3).cell? ⟨g8, i, none⟩ = some (.int .i64 z) := HCz.out
              rcases hap : apTo xss q (x : Int) z 4 with _ | _
              · have HNx := Lib.hid (show lastT xss q (x : Int) L (i + 1) = lastT xss q (x : Int) L i from if_neg (by rw [← HZz.out, hap]; simp))
                clear hap
                go_wp2
                go_roundw
                case rel => exact ⟨i + 1, by omega, by go_num, by rw [HNx.out], ⟨q3, rfl⟩⟩
                case measure => simp [intOf]; omega
              · have HNx := Lib.hid (show lastT xss q (x : Int) L (i + 1) = z from by
                  show (if apTo xss q (x : Int) (nth L i) 4 = true then nth L i else _) = z
                  rw [← HZz.out, if_pos hap])
                clear hap
                go_wp2
                go_roundw
                case rel => exact ⟨i + 1, by omega, by go_num, by rw [HNx.out], ⟨q3, rfl⟩⟩
                case measure => simp [intOf]; omega
        · obtain rfl : i = n8 := by omega
          rw [HLa.out]
          have HX6 := Lib.hid (HXo.out.drewN q2)
          have HZ6 := Lib.hid (HZo.out.drewN q2)
          have HB6 := Lib.hid (below_drewN HBw.out q2)
          have hs6 : w.heap.size + 2 ≤ (wo.drewN q2).heap.size := hso
          clear hso
          generalize wo.drewN q2 = w6 at *
          have HL0 := Lib.hid (show LsR w6 (w6.alloc (.cells #[] 35)) (some ⟨w6.heap.size, 0, none⟩) 0 (fun _ => (none, 0)) ((spL P xss q).take 0) from ⟨(OwnM.lit0 w6 (Nat.le_refl w6.heap.size) (fun _ => (none, 0))).own, fun k hk => absurd hk (by simp), below_boxed w6 _⟩)
          go_wp2
          go_loopw [16, 17, 18, 19] (fun lv v _ _ wr => ∃ (i c' : Nat) (A' : Option Addr) (S : Spine), i ≤ n ∧ v = .int .i64 i ∧ lv = .slice A' i c' ∧ Hid (LsR w6 wr A' c' S ((spL P xss q).take i))) (fun _ v _ _ _ => n - (intOf v).toNat)
          case atStart => exact ⟨0, 0, _, _, Nat.zero_le _, rfl, rfl, HL0⟩
          case round =>
            obtain ⟨i, c', A', S, hi, rfl, rfl, HLs⟩ := hrel
            have HBl := Lib.hid HLs.out.bl
            have HBw7 := Lib.hid (HB6.out.trans (HBl.out.mono HB6.out.size))
            have hszr := HBl.out.size
            have hxr := HX6.out.below HBl.out
            have hc1 := hxr.c1
            have HTl := Lib.hid (show ((spL P xss q).take i).length = i from by rw [List.length_take, HSl.out]; omega)
            by_cases hin : i < n
            · have hcr := (HBw7.out.cell (p := ⟨b, off + i, none⟩) hbl).trans (HCl.out i hin)
              have HHc := HHq.out wr HBw7.out (i : Int)
              have HSi := Lib.hid (HSt.out i hin)
              have hi0 : (0 : Int) ≤ (i : Int) := by omega
              have hi1 : (i : Int) < (n : Int) := by omega
              clear hxr
              rcases hh : hasB q (i : Int) with _ | _
              · rw [hh] at HHc
                have HHd := Lib.hid HHc
                have HRw := Lib.hid (HRn.out i hin hh)
                clear HHc hh
                go_wp2_with fail
                refine (HHd.out).mono ?_
                rintro e w7 ⟨rfl, rfl⟩
                have HLa2 := Lib.hid (HLs.out.below (below_boxed wr (.cells #[.slice (R i).1 3 (R i).2] 35)))
                have HRi := Lib.hid ((HRr.out i hin).below HB6.out)
                have hlit := RdM.lit1 ((HRr.out i hin).below HBw7.out) (HTh.out i hin)
                have HLit := Lib.hid hlit
                clear hlit hc1 hcr
                go_wp2_with (at_builtin; refine wpA_append rfl _ _ rfl w6.heap.size A' c' i (valsM S ((spL P xss q).take i)) (some ⟨wr.heap.size, 0, none⟩) 1 1 (fun _ => ((R i).1, (R i).2)) [row xss i] rfl rfl (by have := HLa2.out.own; rwa [HTl.out] at this) HLit.out rfl (by omega) HLa2.out.bl.size ?_; intro A9 c9 w9 ho9 hg9 ha9)
                have HL9 := Lib.hid (show LsR w6 w9 A9 c9 (joinS S (fun _ => ((R i).1, (R i).2)) ((spL P xss q).take i).length) ((spL P xss q).take (i + 1)) from by
                  rw [HSi.out, HRw.out]
                  exact HLa2.out.grow hg9 (by rw [HTl.out]; exact ho9) (.inl HRi.out))
                clear ho9 hg9 ha9
                go_wp2
                refine ⟨⟨_, _, _, _, _, _, _, _, _, _, _, _, _, _, _, _, _, _, _, _, _, _, _, _, _, _, _, _, _, _, _, _, _, _, _, _, _, ?rel, rfl⟩, ?measure⟩
                case rel => exact ⟨i + 1, c9, A9, _, by omega, by go_num, rfl, HL9⟩
                case measure => simp [intOf]; omega
              · rw [hh] at HHc
                have HHd := Lib.hid HHc
                obtain ⟨hr1, hr2⟩ := HRf.out i hin hh
                have HR1 := Lib.hid hr1
                have HR2 := Lib.hid hr2
                have HKi := Lib.hid hin
                clear HHc hh hr1 hr2
                have HMw := Lib.hid (HMi.out (wr.alloc (.cells #[.int .i64 (x : Int), .int .i64 (o : Int)] 2)) (HBw7.out.alloc HBw7.out.size _) i hin wr.heap.size (OwnI.twoW (lo := wr.heap.size) (x : Int) (o : Int) (Nat.le_refl _)).rd)
                go_wp2_with fail
                refine (HHd.out).mono ?_
                rintro e w7 ⟨rfl, rfl⟩
                go_wp2_with fail
                refine (HMw.out).mono ?_
                rintro e w8 ⟨⟨A8', n8', c8', rfl, hn8', ho8'⟩, hb8'⟩
                have HLb := Lib.hid ((HLs.out.below (below_boxed wr (.cells #[.int .i64 (x : Int), .int .i64 (o : Int)] 2))).below hb8')
                have HBw8 := Lib.hid (HB6.out.trans (HLb.out.bl.mono HB6.out.size))
                have hsz8 := HLb.out.bl.size
                have HO8b := Lib.hid ho8'
                have HN8b := Lib.hid hn8'
                have hn8l : n8' ≤ 32 := by rw [← hn8']; exact HMl.out i HKi.out
                have HHx := HHs.out w8 HBw8.out i HKi.out (x : Int)
                clear hn8' ho8' hb8' hc1 hcr
                rcases hxx : hasB (row xss i) (x : Int) with _ | _
                · rw [hxx] at HHx
                  have HHy := Lib.hid HHx
                  have HRw := Lib.hid (HR2.out hxx)
                  have HPu := Lib.hid (l00Put_c w8 A8' n8' c8' (minusL (row xss i) [(x : Int), (o : Int)]) (x : Int) HO8b.out.rd HN8b.out (by omega))
                  clear HHx hxx
                  go_wp2_with fail
                  refine (HHy.out).mono ?_
                  rintro e w9 ⟨rfl, rfl⟩
                  go_wp2_with fail
                  refine (HPu.out).mono ?_
                  rintro e w10 ⟨⟨A10, n10, c10, rfl, hn10, ho10⟩, hb10⟩
                  rw [← HRw.out] at hn10 ho10
                  have HLc := Lib.hid ((HLb.out.below hb10).below (below_boxed w10 (.cells #[.slice A10 n10 c10] 35)))
                  have HI10 := Lib.hid ((ho10.lower (lo' := w6.heap.size) hsz8).alloc (.cells #[.slice A10 n10 c10] 35))
                  have HLit := Lib.hid (RdM.lit1 ho10.rd hn10)
                  have hsz10 := HLc.out.bl.size
                  clear hn10 ho10 hb10
                  go_wp2_with (at_builtin; refine wpA_append rfl _ _ rfl w6.heap.size A' c' i (valsM S ((spL P xss q).take i)) (some ⟨w10.heap.size, 0, none⟩) 1 1 (fun _ => (A10, c10)) [spRow P xss q i] rfl rfl (by have := HLc.out.own; rwa [HTl.out] at this) HLit.out rfl (by omega) HLc.out.bl.size ?_; intro A11 c11 w11 ho11 hg11 ha11)
                  have HL11 := Lib.hid (show LsR w6 w11 A11 c11 (joinS S (fun _ => (A10, c10)) ((spL P xss q).take i).length) ((spL P xss q).take (i + 1)) from by
                    rw [HSi.out]
                    exact HLc.out.grow hg11 (by rw [HTl.out]; exact ho11) (.inr HI10.out))
                  clear ho11 hg11 ha11
                  go_wp2
                  refine ⟨⟨_, _, _, _, _, _, _, _, _, _, _, _, _, _, _, _, _, _, _, _, _, _, _, _, _, _, _, _, _, _, _, _, _, _, _, _, _, ?rel, rfl⟩, ?measure⟩
                  case rel => exact ⟨i + 1, c11, A11, _, by omega, by go_num, rfl, HL11⟩
                  case measure => simp [intOf]; omega
                · rw [hxx] at HHx
                  have HHy := Lib.hid HHx
                  have HRw := Lib.hid (HR1.out hxx)
                  have HPu := Lib.hid (l00Put_c w8 A8' n8' c8' (minusL (row xss i) [(x : Int), (o : Int)]) (o : Int) HO8b.out.rd HN8b.out (by omega))
                  clear HHx hxx
                  go_wp2_with fail
                  refine (HHy.out).mono ?_
                  rintro e w9 ⟨rfl, rfl⟩
                  go_wp2_with fail
                  refine (HPu.out).mono ?_
                  rintro e w10 ⟨⟨A10, n10, c10, rfl, hn10, ho10⟩, hb10⟩
                  rw [← HRw.out] at hn10 ho10
                  have HLc := Lib.hid ((HLb.out.below hb10).below (below_boxed w10 (.cells #[.slice A10 n10 c10] 35)))
                  have HI10 := Lib.hid ((ho10.lower (lo' := w6.heap.size) hsz8).alloc (.cells #[.slice A10 n10 c10] 35))
                  have HLit := Lib.hid (RdM.lit1 ho10.rd hn10)
                  have hsz10 := HLc.out.bl.size
                  clear hn10 ho10 hb10
                  go_wp2_with (at_builtin; refine wpA_append rfl _ _ rfl w6.heap.size A' c' i (valsM S ((spL P xss q).take i)) (some ⟨w10.heap.size, 0, none⟩) 1 1 (fun _ => (A10, c10)) [spRow P xss q i] rfl rfl (by have := HLc.out.own; rwa [HTl.out] at this) HLit.out rfl (by omega) HLc.out.bl.size ?_; intro A11 c11 w11 ho11 hg11 ha11)
                  have HL11 := Lib.hid (show LsR w6 w11 A11 c11 (joinS S (fun _ => (A10, c10)) ((spL P xss q).take i).length) ((spL P xss q).take (i + 1)) from by
                    rw [HSi.out]
                    exact HLc.out.grow hg11 (by rw [HTl.out]; exact ho11) (.inr HI10.out))
                  clear ho11 hg11 ha11
                  go_wp2
                  refine ⟨⟨_, _, _, _, _, _, _, _, _, _, _, _, _, _, _, _, _, _, _, _, _, _, _, _, _, _, _, _, _, _, _, _, _, _, _, _, _, ?rel, rfl⟩, ?measure⟩
                  case rel => exact ⟨i + 1, c11, A11, _, by omega, by go_num, rfl, HL11⟩
                  case measure => simp [intOf]; omega
            · obtain rfl : i = n := by omega
              have HRd := Lib.hid (show RdM wr A' c' S (spL P xss q) from by
                have := HLs.out.rd
                rwa [List.take_of_length_le (by rw [HSl.out]; exact Nat.le_refl _)] at this)
              have HSoW := Lib.hid (HSo.out wr.drew A' c' S (HRd.out.drewN 1))
              have hc0 := hxr.c0
              have hc1' := hc1
              have hS : wr.drew.cell? ⟨w.heap.size, 0, none⟩ = some (.int .i64 (P : Int)) := hc0
              have HZr := Lib.hid (HZ6.out.step (lo := w6.heap.size) (by omega) HBl.out)
              have HZd := Lib.hid (show RBox wr.drew (w.heap.size + 1) from HZr.out.drewN 1)
              have HBd := Lib.hid (show Below w.heap.size w wr.drew from HBw7.out.drew)
              have hld : w.heap.size < wr.drew.heap.size := hxr.lt
              have hld2 : w.heap.size + 2 ≤ wr.drew.heap.size := by show w.heap.size + 2 ≤ wr.heap.size; omega
              clear hxr hc1'
              go_wp2
              clear hc0 hc1
              go_region_held3 (fun w' => w'.cell? ⟨w.heap.size, 0, none⟩ = some (.int .i64 (P : Int))) (first | exact hS | exact hS9 | exact hSs _ _)
                (first | (go_at_call 32; (with_reducible refine (HSoW.out).mono ?_); rintro e w9 ⟨⟨A9, n9, c9, R9, rfl, hn9, ho9⟩, hb9⟩; have hS9 := (hb9.cell (p := ⟨w.heap.size, 0, none⟩) hld).trans hS; have hSs := fun (u0 u1 : Value) => ((below_set2 (u0 := u0) (u1 := u1) (Below.refl (w.heap.size + 1) w9) (Nat.le_refl _)).cell (p := ⟨w.heap.size, 0, none⟩) (Nat.lt_succ_self _)).trans hS9; have HZ9 := Lib.hid (HZd.out.step (lo := wr.drew.heap.size) (by omega) hb9); have HB9 := Lib.hid (HBd.out.trans (hb9.mono HBd.out.size)); have z0 := HZ9.out.c0; have z1 := HZ9.out.c1; have y0 := HZ9.out.f0; have y1 := HZ9.out.f1) | fail "no arm")
              have HO10 := Lib.hid (show OwnM w9 (w.heap.size + 1 + 1) A9 c9 R9 lst from ho9.lower (by omega))
              have HN9 := Lib.hid hn9
              clear ho9 hn9 hb9 hS hS9 hSs
              go_wp2
              obtain ⟨r0, r1⟩ := HZ9.out.read (.int .i64 (P : Int)) (.slice A9 n9 c9)
              refine bodyPost_ret (v := .tuple #[.agg #[.int .i64 (P : Int), .slice A9 n9 c9], .int .i64 0]) (by simp [results, Tryz.results14, go_sem, r0, r1]) rfl ⟨⟨A9, n9, c9, R9, rfl, HN9.out, own_set2 HO10.out (by omega) _ _⟩, below_set2 HB9.out (by omega)⟩
end Go.Proofs.YtmmkmkbpgcbehaaGreat
