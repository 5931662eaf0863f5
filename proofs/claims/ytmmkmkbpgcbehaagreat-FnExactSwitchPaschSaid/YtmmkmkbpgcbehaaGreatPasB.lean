/-
  Quadrilaterals in the program: paschsOf and PaschsOf. Conditions: those of each theorem.
-/
import Derived.Test.YtmmkmkbpgcbehaaGreatPasA
import Derived.Test.YtmmkmkbpgcbehaaGreatDFrame
namespace Go.Proofs.YtmmkmkbpgcbehaaGreat
open Go.RowKit
set_option linter.unusedVariables false
set_option linter.unusedSimpArgs false

theorem RdM.openQ {w : World} {A : Option Addr} {c : Nat} {R : Spine} {h : List (List Int)} (hr : RdM w A c R h) (hn : 0 < h.length) :
    ∃ b off, A = some ⟨b, off, none⟩ ∧ b < w.heap.size ∧ ∀ k, k < h.length → w.cell? ⟨b, off + k, none⟩ = some (.slice (R k).1 (row h k).length (R k).2) := by
  obtain ⟨b, off, rfl, hb, _⟩ := hr.at_ 0 hn
  refine ⟨b, off, rfl, hb, fun k hk => ?_⟩
  obtain ⟨b', off', e, _, hc⟩ := hr.at_ k hk
  injection e with e
  injection e with e1 e2
  subst e1 e2
  exact hc
theorem OwnI.twoQ {w : World} {lo : Nat} {A : Option Addr} {c : Nat} {x y : Int} (h : OwnI w lo A c [x, y]) : ∃ g, A = some ⟨g, 0, none⟩ ∧ lo ≤ g ∧ g < w.heap.size ∧ w.cell? ⟨g, 0, none⟩ = some (.int .i64 x) ∧ w.cell? ⟨g, 1, none⟩ = some (.int .i64 y) := by
  obtain ⟨g, e, h1, h2, h3, _⟩ := h.at_ (k := 0) (by simp)
  obtain ⟨g', e', _, _, h4, _⟩ := h.at_ (k := 1) (by simp)
  rw [e] at e'
  injection e' with e'
  injection e' with e'
  subst e'
  exact ⟨g, e, h1, h2, h3, h4⟩
theorem OwnI.litQ (w : World) (x y : Int) {lo : Nat} (h : lo ≤ w.heap.size) : OwnI (w.alloc (.cells #[.int .i64 x, .int .i64 y] 2)) lo (some ⟨w.heap.size, 0, none⟩) 2 [x, y] :=
  World.ownsRow_lit (e := 2) (size := 1) w #[.int .i64 x, .int .i64 y] 2 h (by unfold maxLen; omega) rfl
theorem OwnI.lit4Q (w : World) (x y z t : Int) {lo : Nat} (h : lo ≤ w.heap.size) : OwnI (w.alloc (.cells #[.int .i64 x, .int .i64 y, .int .i64 z, .int .i64 t] 2)) lo (some ⟨w.heap.size, 0, none⟩) 4 [x, y, z, t] :=
  World.ownsRow_lit (e := 2) (size := 1) w #[.int .i64 x, .int .i64 y, .int .i64 z, .int .i64 t] 4 h (by unfold maxLen; omega) rfl
theorem OwnM.blkQ {w : World} {lo : Nat} {A : Option Addr} {c : Nat} {R : Spine} {xss : List (List Int)} (h : OwnM w lo A c R xss) : ∀ g, blk A = some g → g < w.heap.size := fun g e => by
  rcases h.form with ⟨e1, _⟩ | ⟨g1, e1, _, h2, _⟩
  · rw [e1] at e; simp [blk] at e
  · rw [e1, blk_some] at e; injection e with e; omega
theorem keepQ4 {lo : Nat} {w w' : World} {p1 p2 p3 p4 : Addr} {v1 v2 v3 v4 : Option Value} (hb : Below lo w w') (h1 : p1.block < lo) (h2 : p2.block < lo) (h3 : p3.block < lo) (h4 : p4.block < lo)
    (h : w.cell? p1 = v1 ∧ w.cell? p2 = v2 ∧ w.cell? p3 = v3 ∧ w.cell? p4 = v4) : w'.cell? p1 = v1 ∧ w'.cell? p2 = v2 ∧ w'.cell? p3 = v3 ∧ w'.cell? p4 = v4 :=
  ⟨(hb.cell h1).trans h.1, (hb.cell h2).trans h.2.1, (hb.cell h3).trans h.2.2.1, (hb.cell h4).trans h.2.2.2⟩
theorem keepQ2 {lo : Nat} {w w' : World} {p1 p2 : Addr} {v1 v2 : Option Value} (hb : Below lo w w') (h1 : p1.block < lo) (h2 : p2.block < lo) (h : w.cell? p1 = v1 ∧ w.cell? p2 = v2) : w'.cell? p1 = v1 ∧ w'.cell? p2 = v2 :=
  ⟨(hb.cell h1).trans h.1, (hb.cell h2).trans h.2⟩
/-- A cell outside the block that a step turned. -/
theorem grown_cell {w w' : World} {r : Option Nat} {g k : Nat} {v : Value} (hg : w.grownBy w' r) (hc : w.cell? ⟨g, k, none⟩ = some v) (hne : r ≠ some g) : w'.cell? ⟨g, k, none⟩ = some v := by
  have hlt : g < w.heap.size := cell_size hc
  have := hg.block g hlt (fun e => hne e.symm)
  unfold World.cell? at hc ⊢
  simp only at hc ⊢
  rw [this]
  exact hc
/-- The two ways to turn the points of the second block. -/
theorem qturn {xss : List (List Int)} {i j y0 y1 t : Nat} (h : qX xss j i = [(y0 : Int), (y1 : Int)]) (ht : t < 2) {w : World} {g : Nat} {A6 : Option Addr} {c6 g7 lo : Nat}
    (hc : w.cell? ⟨g, 0, none⟩ = some (.slice A6 2 c6) ∧ w.cell? ⟨g, 1, none⟩ = some (.slice (some ⟨g7, 0, none⟩) 2 2)) (h6 : OwnI w lo A6 c6 [(y0 : Int), (y1 : Int)]) (h7 : OwnI w lo (some ⟨g7, 0, none⟩) 2 [(y1 : Int), (y0 : Int)]) :
    ∃ (Ar : Option Addr) (cr ya yb : Nat), w.cell? ⟨g, t, none⟩ = some (.slice Ar 2 cr) ∧ OwnI w lo Ar cr [(ya : Int), (yb : Int)] ∧ ya = sN (qX xss j i) t ∧ yb = sN (qX xss j i) (1 - t) ∧ ((ya = y0 ∧ yb = y1) ∨ (ya = y1 ∧ yb = y0)) := by
  rcases (show t = 0 ∨ t = 1 by omega) with rfl | rfl
  · exact ⟨A6, c6, y0, y1, hc.1, h6, by rw [h]; rfl, by rw [h]; rfl, .inl ⟨rfl, rfl⟩⟩
  · exact ⟨_, 2, y1, y0, hc.2, h7, by rw [h]; rfl, by rw [h]; rfl, .inr ⟨rfl, rfl⟩⟩

set_option maxRecDepth 100000 in
set_option maxHeartbeats 32000000 in
theorem paschsOf_c (w : World) (P : Nat) (A : Option Addr) (n c : Nat) (R : Spine) (xss : List (List Int)) (hr : RdM w A c R xss) (hn : xss.length = n) (hD : DsgOk (P : Int) xss) (hT : TripSys P xss) :
    Calls Tryz.prog 25 #[.agg #[.int .i64 (P : Int), .slice A n c]] w (PostM w (qdR xss)) := by
  have hmf : ∀ (fn : Fn) (first cap : Array Value) (w : World), (Instr.makeFunc fn first cap).run Tryz.prog w = .ok (.func fn first cap) w := fun _ _ _ _ => rfl
  have hn128 : n ≤ 128 := by have := hD.2.1; omega
  have hP32 : P ≤ 32 := by have := hD.1.2; omega
  have hnc : n ≤ c := by have := hr.le; omega
  obtain ⟨wa, hwa⟩ : ∃ wa, wa = w.alloc (.cells #[.int .i64 (P : Int), .slice A n c] 28) := ⟨_, rfl⟩
  have hB0 : Below w.heap.size w wa := by rw [hwa]; exact below_boxed w _
  have hXa : BoxD wa w.heap.size (P : Int) A n c := by rw [hwa]; exact BoxD.made w (P : Int) A n c _
  have HTh := Lib.hid (thirdPoints_c wa P A n c R xss (hr.below hB0) hn hD hT)
  have HWa := Lib.hid hwa
  have HXa := Lib.hid hXa
  have HB0 := Lib.hid hB0
  have HR := Lib.hid hr
  have HN := Lib.hid hn
  have HTr := Lib.hid hT
  have eg := Lib.hid (enters_of Tryz.func50 (by kernel_rfl) rfl)
  clear hwa hB0 hXa hr hn hT hD
  go_enter Tryz.func25, Tryz.ntmps25
  go_wp2_with fail
  rw [← HWa.out]
  refine (HTh.out).mono ?_
  rintro e w1 ⟨⟨A3, n3, c3, R3, rfl, hn3, ho3⟩, hb3⟩
  obtain rfl : P = n3 := by rw [length_sqTo] at hn3; exact hn3
  obtain ⟨w2, hw2⟩ : ∃ w2, w2 = w1.alloc (.cells #[.slice A3 P c3] 22) := ⟨_, rfl⟩
  have hb12 : Below w1.heap.size w1 w2 := by rw [hw2]; exact below_boxed w1 _
  have HCt := Lib.hid (show w2.cell? ⟨w1.heap.size, 0, none⟩ = some (.slice A3 P c3) from by rw [hw2]; exact World.cell?_alloc_at _ _ _ _ rfl)
  have HT3 := Lib.hid (ho3.rd.below hb12)
  have HB2 := Lib.hid (HB0.out.trans ((hb3.trans (hb12.mono hb3.size)).mono HB0.out.size))
  have HX2 := Lib.hid (HXa.out.below (hb3.trans (hb12.mono hb3.size)))
  have hs12 : w1.heap.size < w2.heap.size := by rw [hw2]; simp
  have hsw2 : w.heap.size < w2.heap.size := HX2.out.lt
  have HIk := Lib.hid (fun (W : World) (hb : Below w2.heap.size w2 W) (x y : Nat) (hne : x ≠ y) (hx : x < P) (hy : y < P) => pq1_c W w.heap.size w1.heap.size P x y A3 c3 R3 A n c R xss (HX2.out.below hb) (HR.out.below (HB2.out.trans (hb.mono HB2.out.size))) HN.out ((hb.cell (p := ⟨w1.heap.size, 0, none⟩) hs12).trans HCt.out) (HT3.out.below hb) HTr.out hne hx hy)
  have HW2 := Lib.hid hw2
  have hd1 := HX2.out.c1
  rw [hw2] at hd1
  have HO0 := Lib.hid (show OwnM w2 w2.heap.size none 0 (fun _ => (none, 0)) (qAll xss 0) from OwnM.nil_ w2 w2.heap.size _)
  clear hn3 ho3 hb3 hb12 hw2
  go_wp2
  rw [← HW2.out]
  clear hd1
  go_loopw [5, 22] (fun o v wr => ∃ (i s : Nat) (A' : Option Addr) (c' : Nat) (R' : Spine), i ≤ n ∧ v = .int .i64 i ∧ o = .slice A' s c' ∧ Hid ((qAll xss i).length = s) ∧ Hid (OwnM wr w2.heap.size A' c' R' (qAll xss i)) ∧ Hid (Below w2.heap.size w2 wr)) (fun _ v _ => n - (intOf v).toNat)
  case atStart => exact ⟨0, 0, none, 0, _, Nat.zero_le _, rfl, rfl, Lib.hid rfl, HO0, Lib.hid (Below.refl _ _)⟩
  case round =>
    obtain ⟨i, s, A', c', R', hi, rfl, rfl, HS, HO, HB⟩ := hrel
    have hszi := HB.out.size
    by_cases hin : i < n
    · have hix : i < xss.length := by rw [HN.out]; exact hin
      have hxi := HX2.out.below HB.out
      have hc1 := hxi.c1
      have HBw := Lib.hid (HB2.out.trans (HB.out.mono HB2.out.size))
      obtain ⟨b, off, e, hb, hcl⟩ := HR.out.openQ (by omega)
      subst e
      have HCl := Lib.hid hcl
      have hci := (HBw.out.cell (p := ⟨b, off + i, none⟩) hb).trans (hcl i hix)
      have h3i := HTr.out.three i hix
      rw [h3i] at hci
      have H3i := Lib.hid h3i
      have hi0 : (0 : Int) ≤ (i : Int) := by omega
      have hi1 : (i : Int) < (n : Int) := by omega
      have hic : i ≤ c := by omega
      have hic2 : (i : Int) ≤ (c : Int) := by omega
      have HO1 := Lib.hid (show OwnM wr w2.heap.size A' c' R' (qAll xss i ++ qRow xss i 0) from by rw [show qRow xss i 0 = [] from rfl, List.append_nil]; exact HO.out)
      have HS1 := Lib.hid (show (qAll xss i ++ qRow xss i 0).length = s from by rw [show qRow xss i 0 = [] from rfl, List.append_nil]; exact HS.out)
      clear hcl hxi h3i
      obtain ⟨wo, rfl⟩ : ∃ wo, wo = wr := ⟨_, rfl⟩
      go_wp2
      clear hc1 hci
      go_loopw [5, 32] (fun o v wr => ∃ (j s : Nat) (A' : Option Addr) (c' : Nat) (R' : Spine), j ≤ i ∧ v = .int .i64 j ∧ o = .slice A' s c' ∧ Hid ((qAll xss i ++ qRow xss i j).length = s) ∧ Hid (OwnM wr w2.heap.size A' c' R' (qAll xss i ++ qRow xss i j)) ∧ Hid (Below w2.heap.size w2 wr)) (fun _ v _ => i - (intOf v).toNat)
      case atStart => exact ⟨0, s, _, _, _, Nat.zero_le _, rfl, rfl, HS1, HO1, HB⟩
      case round =>
        obtain ⟨j, s, A', c', R', hj, rfl, rfl, HS, HO, HB⟩ := hrel
        have hszj := HB.out.size
        by_cases hji : j < i
        · have hjx : j < xss.length := by omega
          have HBw := Lib.hid (HB2.out.trans (HB.out.mono HB2.out.size))
          have hcj := (HBw.out.cell (p := ⟨b, off + j, none⟩) hb).trans (HCl.out j hjx)
          have h3j := HTr.out.three j hjx
          rw [h3j] at hcj
          have H3j := Lib.hid h3j
          have hj0 : (0 : Int) ≤ (j : Int) := by omega
          have hj1 : (j : Int) < (i : Int) := by omega
          have HQa := Lib.hid (setQ (HTr.out.rows i hix))
          have HQb := Lib.hid (setQ (HTr.out.rows j hjx))
          have HMe := Lib.hid (MeetSets_c wr (R i).1 (R j).1 3 3 (R i).2 (R j).2 (row xss i) (row xss j) ((HR.out.below HBw.out).rows i hix) H3i.out ((HR.out.below HBw.out).rows j hjx) h3j)
          clear h3j
          go_wp2_with fail
          refine (HMe.out).mono ?_
          rintro e w4 ⟨⟨A4, n4, c4, rfl, hn4, ho4⟩, hb4⟩
          have HB4 := Lib.hid (HB.out.trans (hb4.mono hszj))
          have HO4 := Lib.hid (HO.out.below hb4)
          have HC4 := Lib.hid ho4
          have HN4 := Lib.hid hn4
          have hsz4 := HB4.out.size
          clear hcj
          by_cases hm : qMeet xss i j
          · obtain rfl : n4 = 1 := by rw [← hn4]; exact hm
            obtain ⟨pc, x0, x1, y0, y1, ⟨p0, p1, p2, p3, p4⟩, hm1, hm2, ex, ey, _, _, n0⟩ := HTr.out.shape (show i ≠ j by omega) hix hjx hm
            have HBw4 := Lib.hid (HB2.out.trans (HB4.out.mono HB2.out.size))
            have HMi := Lib.hid (MinusSets_c w4 (R i).1 A4 3 1 (R i).2 c4 (row xss i) (meetL (row xss i) (row xss j)) ((HR.out.below HBw4.out).rows i hix) H3i.out ho4.rd hn4)
            have HMj := Lib.hid (fun (W : World) (hb : Below w4.heap.size w4 W) => (show Calls Tryz.prog 36 #[.slice (R j).1 3 (R j).2, .slice A4 1 c4] W (PostS W (qX xss j i)) from by
              have := MinusSets_c W (R j).1 A4 3 1 (R j).2 c4 (row xss j) (meetL (row xss i) (row xss j)) (((HR.out.below HBw4.out).below hb).rows j hjx) H3j.out (ho4.rd.below hb) hn4
              rwa [meetQ_comm HQa.out HQb.out] at this))
            have HPr := Lib.hid (show qPair xss i j = qTo xss i j 2 from if_pos hm)
            have HEx := Lib.hid ex
            have HEy := Lib.hid ey
            have HN0 := Lib.hid n0
            have HPt := Lib.hid (And.intro p1 (And.intro p2 (And.intro p3 p4)))
            have HMt := Lib.hid hm
            clear hn4 ho4 hb4 hm hm1 hm2 ex ey n0 p0 p1 p2 p3 p4
            go_wp2_with fail
            refine (HMi.out).mono ?_
            rintro e w5 ⟨⟨A5, n5, c5, rfl, hn5, ho5⟩, hb5⟩
            rw [show minusL (row xss i) (meetL (row xss i) (row xss j)) = qX xss i j from rfl, HEx.out] at hn5 ho5
            obtain rfl : n5 = 2 := hn5.symm
            have HB5 := Lib.hid (HB4.out.trans (hb5.mono hsz4))
            have HO5 := Lib.hid (HO4.out.below hb5)
            have HMj5 := Lib.hid (HMj.out w5 hb5)
            have hsz5 := HB5.out.size
            have HP5 := Lib.hid (ho5.lower (lo' := w2.heap.size) hsz4)
            obtain ⟨g5, e5, _, _, _, _⟩ := ho5.twoQ
            clear hn5 ho5 hb5
            subst e5
            go_wp2_with fail
            refine (HMj5.out).mono ?_
            rintro e w6 ⟨⟨A6, n6, c6, rfl, hn6, ho6⟩, hb6⟩
            rw [HEy.out] at hn6 ho6
            obtain rfl : n6 = 2 := hn6.symm
            have HB6 := Lib.hid (HB5.out.trans (hb6.mono hsz5))
            have HO6 := Lib.hid (HO5.out.below hb6)
            have hsz6 := HB6.out.size
            have HP6 := Lib.hid (HP5.out.below hb6)
            have HQ6 := Lib.hid (ho6.lower (lo' := w2.heap.size) hsz5)
            obtain ⟨g6, e6, hg60, hg61, hq0, hq1⟩ := ho6.twoQ
            have HE6 := Lib.hid e6
            have hq00 := ((below_boxed w6.drew (.cells #[.int .i64 (y1 : Int), .int .i64 (y0 : Int)] 2)).cell (p := ⟨g6, 0, none⟩) hg61).trans hq0
            have hq01 := ((below_boxed w6.drew (.cells #[.int .i64 (y1 : Int), .int .i64 (y0 : Int)] 2)).cell (p := ⟨g6, 1, none⟩) hg61).trans hq1
            have hS : w6.drew.cell? ⟨g6, 0, none⟩ = some (.int .i64 (y0 : Int)) ∧ w6.drew.cell? ⟨g6, 1, none⟩ = some (.int .i64 (y1 : Int)) := ⟨hq0, hq1⟩
            clear hn6 ho6 hb6
            subst e6
            go_wp2
            go_region_held3 (fun w' => w'.cell? ⟨g6, 0, none⟩ = some (.int .i64 (y0 : Int)) ∧ w'.cell? ⟨g6, 1, none⟩ = some (.int .i64 (y1 : Int))) (first | exact hS | exact ⟨hq00, hq01⟩ | (refine keepQ2 ((below_boxed _ _)) ?_ ?_ ⟨hq00, hq01⟩ <;> simp <;> omega)) (first | fail "no arm" | fail "no arm")
            clear hS hq00 hq01 hq0 hq1
            obtain ⟨w8, hw8⟩ : ∃ w8, w8 = ((w6.alloc (.cells #[.int .i64 (y1 : Int), .int .i64 (y0 : Int)] 2)).alloc (.cells #[.slice (some ⟨g6, 0, none⟩) 2 c6, .slice (some ⟨w6.heap.size, 0, none⟩) 2 2] 35)).drew := ⟨_, rfl⟩
            have hb68 : Below w6.heap.size w6 w8 := by rw [hw8]; exact ((below_boxed w6 _).alloc (by simp) _).drew
            have HB8 := Lib.hid (HB6.out.trans (hb68.mono hsz6))
            have HO8 := Lib.hid (show OwnM w8 w2.heap.size A' c' R' ((qAll xss i ++ qRow xss i j) ++ qTo xss i j 0) from by rw [show qTo xss i j 0 = [] from rfl, List.append_nil]; exact HO6.out.below hb68)
            have HS8 := Lib.hid (show ((qAll xss i ++ qRow xss i j) ++ qTo xss i j 0).length = s from by rw [show qTo xss i j 0 = [] from rfl, List.append_nil]; exact HS.out)
            have HP8 := Lib.hid (HP6.out.below hb68)
            have HQ8 := Lib.hid (HQ6.out.below hb68)
            have HR8 := Lib.hid (show OwnI w8 w2.heap.size (some ⟨w6.heap.size, 0, none⟩) 2 [(y1 : Int), (y0 : Int)] from by rw [hw8]; exact ((OwnI.litQ w6 (y1 : Int) (y0 : Int) hsz6).alloc _).drewN 1)
            have HC8 := Lib.hid (show w8.cell? ⟨w6.heap.size + 1, 0, none⟩ = some (.slice (some ⟨g6, 0, none⟩) 2 c6) ∧ w8.cell? ⟨w6.heap.size + 1, 1, none⟩ = some (.slice (some ⟨w6.heap.size, 0, none⟩) 2 2) from by
              rw [hw8]
              exact ⟨(World.cell?_alloc_at _ _ _ _ (by simp)).trans rfl, (World.cell?_alloc_at _ _ _ _ (by simp)).trans rfl⟩)
            obtain ⟨g8, hg8⟩ : ∃ g, g = w6.heap.size + 1 := ⟨_, rfl⟩
            have hs8 : g8 < w8.heap.size := by rw [hg8, hw8]; show w6.heap.size + 1 < ((w6.alloc _).alloc _).heap.size; simp
            have HA8 := Lib.hid (show ∀ g, blk A' = some g → g ≠ g8 from fun g e => by have := HO6.out.blkQ g e; omega)
            obtain ⟨g7, hg7⟩ : ∃ g, g = w6.heap.size := ⟨_, rfl⟩
            have hg78 : w6.heap.size + 1 = g8 := hg8.symm
            rw [hg78, ← hg7] at HC8
            rw [← hg7] at HR8
            have HW8 := Lib.hid hw8
            have hsz8 := HB8.out.size
            have HG78 := Lib.hid hg78
            have HG7 := Lib.hid hg7
            clear hw8 hb68 hg8 hg7 hg78
            go_wp2
            rw [HG78.out, ← HG7.out]
            rw [show ((w6.alloc (.cells #[.int .i64 (y1 : Int), .int .i64 (y0 : Int)] 2)).alloc (.cells #[.slice (some ⟨g6, 0, none⟩) 2 c6, .slice (some ⟨g7, 0, none⟩) 2 2] 35)).drew = w8 by rw [HG7.out, HW8.out]]
            go_loopw [5, 59] (fun o v wr => ∃ (t s : Nat) (A' : Option Addr) (c' : Nat) (R' : Spine), t ≤ 2 ∧ v = .int .i64 t ∧ o = .slice A' s c' ∧ Hid (((qAll xss i ++ qRow xss i j) ++ qTo xss i j t).length = s) ∧ Hid (OwnM wr w2.heap.size A' c' R' ((qAll xss i ++ qRow xss i j) ++ qTo xss i j t)) ∧ Hid (Below w2.heap.size w2 wr) ∧ Hid (OwnI wr w2.heap.size (some ⟨g5, 0, none⟩) c5 [(x0 : Int), (x1 : Int)]) ∧ Hid (OwnI wr w2.heap.size (some ⟨g6, 0, none⟩) c6 [(y0 : Int), (y1 : Int)]) ∧ Hid (OwnI wr w2.heap.size (some ⟨g7, 0, none⟩) 2 [(y1 : Int), (y0 : Int)]) ∧ Hid (wr.cell? ⟨g8, 0, none⟩ = some (.slice (some ⟨g6, 0, none⟩) 2 c6) ∧ wr.cell? ⟨g8, 1, none⟩ = some (.slice (some ⟨g7, 0, none⟩) 2 2)) ∧ Hid (∀ g, blk A' = some g → g ≠ g8)) (fun _ v _ => 2 - (intOf v).toNat)
            case atStart => exact ⟨0, s, A', c', R', Nat.zero_le _, rfl, rfl, HS8, HO8, HB8, HP8, HQ8, HR8, HC8, HA8⟩
            case round =>
              obtain ⟨t, s, A', c', R', ht, rfl, rfl, HS, HO, HB, HP, HQ, HR7, HC, HA⟩ := hrel
              have hszt := HB.out.size
              by_cases ht2 : t < 2
              · obtain ⟨Ar, cr, ya, yb, hcr, hor, hya, hyb, hyy⟩ := qturn HEy.out ht2 HC.out HQ.out HR7.out
                obtain ⟨q1, q2, q3, q4⟩ := HPt.out
                have hn0 := HN0.out
                have hpx0 : x0 ≠ ya := by rcases hyy with ⟨e1, e2⟩ | ⟨e1, e2⟩ <;> rw [e1] <;> omega
                have hpx1 : x1 ≠ yb := by rcases hyy with ⟨e1, e2⟩ | ⟨e1, e2⟩ <;> rw [e2] <;> omega
                have hyaP : ya < P := by rcases hyy with ⟨e1, e2⟩ | ⟨e1, e2⟩ <;> rw [e1] <;> omega
                have hybP : yb < P := by rcases hyy with ⟨e1, e2⟩ | ⟨e1, e2⟩ <;> rw [e2] <;> omega
                obtain ⟨gr, er, hgr0, hgr1, hr0, hr1⟩ := hor.twoQ
                obtain ⟨g5', e5, hg50, hg51, hp0, hp1⟩ := HP.out.twoQ
                injection e5 with e5
                injection e5 with e5
                subst e5
                have hcT := (HB.out.cell (p := ⟨w1.heap.size, 0, none⟩) hs12).trans HCt.out
                obtain ⟨b3, o3, b4, o4, C4, e3, hb3, hc3, hb4, hc4⟩ := (HT3.out.below HB.out).sq_at (i := x0) (j := ya) q1 hyaP
                obtain ⟨b3', o3', b5, o5, C5, e3', hb3', hc3', hb5, hc5⟩ := (HT3.out.below HB.out).sq_at (i := x1) (j := yb) q2 hybP
                rw [e3] at e3'
                injection e3' with e3'
                injection e3' with e3' e3''
                subst e3' e3''
                have hqc : qCond xss i j t = decide (thF xss xss.length x0 ya = thF xss xss.length x1 yb) := by unfold qCond; rw [HEx.out, ← hya, ← hyb]; rfl
                have HQo := Lib.hid (show qOne xss i j t = ikF xss x0 ya from by unfold qOne; rw [HEx.out, ← hya]; rfl)
                have HQt := Lib.hid (show qTwo xss i j t = ikF xss x1 yb from by unfold qTwo; rw [HEx.out, ← hyb]; rfl)
                have HI1 := Lib.hid (fun (W : World) (hb : Below w2.heap.size w2 W) => HIk.out W hb x0 ya hpx0 q1 hyaP)
                have HI2 := Lib.hid (fun (W : World) (hb : Below w2.heap.size w2 W) => HIk.out W hb x1 yb hpx1 q2 hybP)
                have hik1 : ikF xss x0 ya < 128 := by obtain ⟨_, _, _, _, _, h5, _, _⟩ := HTr.out.look hpx0 q1 hyaP; have := HN.out; omega
                have hik2 : ikF xss x1 yb < 128 := by obtain ⟨_, _, _, _, _, h5, _, _⟩ := HTr.out.look hpx1 q2 hybP; have := HN.out; omega
                obtain ⟨v1, hv1⟩ : ∃ v, v = thF xss xss.length x0 ya := ⟨_, rfl⟩
                obtain ⟨v2, hv2⟩ : ∃ v, v = thF xss xss.length x1 yb := ⟨_, rfl⟩
                obtain ⟨i1, hi1'⟩ : ∃ v, v = ikF xss x0 ya := ⟨_, rfl⟩
                obtain ⟨i2, hi2'⟩ : ∃ v, v = ikF xss x1 yb := ⟨_, rfl⟩
                rw [← hv1] at hc4 hqc
                rw [← hv2] at hc5 hqc
                rw [← hi1'] at HI1 HQo hik1
                rw [← hi2'] at HI2 HQt hik2
                have hx00 : (0 : Int) ≤ (x0 : Int) := by omega
                have hx01 : (x0 : Int) < (P : Int) := by omega
                have hx10 : (0 : Int) ≤ (x1 : Int) := by omega
                have hx11 : (x1 : Int) < (P : Int) := by omega
                have hya0 : (0 : Int) ≤ (ya : Int) := by omega
                have hya1 : (ya : Int) < (P : Int) := by omega
                have hyb0 : (0 : Int) ≤ (yb : Int) := by omega
                have hyb1 : (yb : Int) < (P : Int) := by omega
                have ht0 : (0 : Int) ≤ (t : Int) := by omega
                have ht1 : (t : Int) < 2 := by omega
                have hs4 : s ≤ 40000 := by
                  have h1 := HS.out
                  rw [List.length_append, List.length_append] at h1
                  have := qAll_len (xss := xss) (k := i) (by omega)
                  have := qRow_len xss i j
                  have := qTo_len xss i j t
                  omega
                have HOr := Lib.hid hor
                rw [e3] at hcT
                rw [er] at hcr
                have HEr := Lib.hid er
                clear hor hya hyb hyy hv1 hv2 hi1' hi2' hn0 hpx0 hpx1 e3 er
                clear hn128 hP32 hnc hb hic hic2 hi0 hi1 hj0 hj1 hji hsz4 hsz5 hsz6 hszj hszi
                go_wp2
                go_quiet (fail)
                clear hcT hc3 hc4 hc3' hc5 hx00 hx01 hx10 hx11 hya0 hya1 hyb0 hyb1 ht0 ht1 hyaP hybP q1 q2 q3 q4 hb3 hb4 hb5 hb3' hcr
                have hS0 : (wr.drewN nq).cell? ⟨g5, 0, none⟩ = some (.int .i64 (x0 : Int)) ∧ (wr.drewN nq).cell? ⟨g5, 1, none⟩ = some (.int .i64 (x1 : Int)) ∧ (wr.drewN nq).cell? ⟨gr, 0, none⟩ = some (.int .i64 (ya : Int)) ∧ (wr.drewN nq).cell? ⟨gr, 1, none⟩ = some (.int .i64 (yb : Int)) := ⟨hp0, hp1, hr0, hr1⟩
                have HBz := Lib.hid (below_drewN HB.out nq)
                have HOz := Lib.hid (HO.out.drewN nq)
                have HPz := Lib.hid (HP.out.drewN nq)
                have HQz := Lib.hid (HQ.out.drewN nq)
                have HRz := Lib.hid (HR7.out.drewN nq)
                have HCz := Lib.hid (show (wr.drewN nq).cell? ⟨g8, 0, none⟩ = some (.slice (some ⟨g6, 0, none⟩) 2 c6) ∧ (wr.drewN nq).cell? ⟨g8, 1, none⟩ = some (.slice (some ⟨g7, 0, none⟩) 2 2) from HC.out)
                have hg51z : g5 < (wr.drewN nq).heap.size := hg51
                have hgr1z : gr < (wr.drewN nq).heap.size := hgr1
                clear hp0 hp1 hr0 hr1 hg50 hg51 hgr0 hgr1
                generalize wr.drewN nq = wz at *
                rcases hq : qCond xss i j t with _ | _
                · have hvv : (v1 == v2) = false := by rw [hq] at hqc; have := of_decide_eq_false hqc.symm; simpa using this
                  have hvv2 : ¬ v1 = v2 := by rw [hq] at hqc; exact of_decide_eq_false hqc.symm
                  have HNx := Lib.hid (qTo_miss hq)
                  have HS9 := Lib.hid (show ((qAll xss i ++ qRow xss i j) ++ qTo xss i j (t + 1)).length = s from by rw [HNx.out]; exact HS.out)
                  have HO9 := Lib.hid (show OwnM wz w2.heap.size A' c' R' ((qAll xss i ++ qRow xss i j) ++ qTo xss i j (t + 1)) from by rw [HNx.out]; exact HOz.out)
                  clear hq hqc hS0
                  go_wp2
                  go_roundw
                  case rel => exact ⟨t + 1, s, A', c', R', by omega, by go_num, rfl, HS9, HO9, HBz, HPz, HQz, HRz, HCz, HA⟩
                  case measure => simp [intOf] <;> omega
                · have hvv : (v1 == v2) = true := by rw [hq] at hqc; have := of_decide_eq_true hqc.symm; simpa using this
                  have hvv2 : v1 = v2 := by rw [hq] at hqc; exact of_decide_eq_true hqc.symm
                  have HNx := Lib.hid (qTo_hit hq)
                  clear hq hqc hvv
                  subst hvv2
                  have hS : wz.drew.cell? ⟨g5, 0, none⟩ = some (.int .i64 (x0 : Int)) ∧ wz.drew.cell? ⟨g5, 1, none⟩ = some (.int .i64 (x1 : Int)) ∧ wz.drew.cell? ⟨gr, 0, none⟩ = some (.int .i64 (ya : Int)) ∧ wz.drew.cell? ⟨gr, 1, none⟩ = some (.int .i64 (yb : Int)) := hS0
                  have HBq := Lib.hid (show Below w2.heap.size w2 wz.drew from HBz.out.drew)
                  have HOq := Lib.hid (show OwnM wz.drew w2.heap.size A' c' R' ((qAll xss i ++ qRow xss i j) ++ qTo xss i j t) from HOz.out.drew)
                  have HPq := Lib.hid (show OwnI wz.drew w2.heap.size (some ⟨g5, 0, none⟩) c5 [(x0 : Int), (x1 : Int)] from HPz.out.drewN 1)
                  have HQq := Lib.hid (show OwnI wz.drew w2.heap.size (some ⟨g6, 0, none⟩) c6 [(y0 : Int), (y1 : Int)] from HQz.out.drewN 1)
                  have HRq := Lib.hid (show OwnI wz.drew w2.heap.size (some ⟨g7, 0, none⟩) 2 [(y1 : Int), (y0 : Int)] from HRz.out.drewN 1)
                  have HCq := Lib.hid (show wz.drew.cell? ⟨g8, 0, none⟩ = some (.slice (some ⟨g6, 0, none⟩) 2 c6) ∧ wz.drew.cell? ⟨g8, 1, none⟩ = some (.slice (some ⟨g7, 0, none⟩) 2 2) from HCz.out)
                  have HK4 := Lib.hid (fun (W' : World) (hbW : Below wz.drew.heap.size wz.drew W') => keepQ4 (p1 := ⟨g5, 0, none⟩) (p2 := ⟨g5, 1, none⟩) (p3 := ⟨gr, 0, none⟩) (p4 := ⟨gr, 1, none⟩) hbW hg51z hg51z hgr1z hgr1z hS)
                  clear hS0
                  have hzq2 : w2.heap.size ≤ wz.drew.heap.size := HBq.out.size
                  have HJ1 := Lib.hid (HI1.out wz.drew HBq.out)
                  go_wp2
                  go_region_held3 (fun w' => w'.cell? ⟨g5, 0, none⟩ = some (.int .i64 (x0 : Int)) ∧ w'.cell? ⟨g5, 1, none⟩ = some (.int .i64 (x1 : Int)) ∧ w'.cell? ⟨gr, 0, none⟩ = some (.int .i64 (ya : Int)) ∧ w'.cell? ⟨gr, 1, none⟩ = some (.int .i64 (yb : Int))) (first | exact hS | exact hS5 | exact hS6 | exact hS7)
                    (first | (go_at_call 50; (with_reducible refine (HJ1.out).mono ?_); rintro e w5 ⟨rfl, hb5⟩; have hS5 := HK4.out w5 hb5) | (go_at_call 50; (with_reducible refine (HI2.out w5 (HBq.out.trans (hb5.mono hzq2))).mono ?_); rintro e w6 ⟨rfl, hb6⟩; have hS6 := HK4.out w6 (hb5.trans (hb6.mono hb5.size)); have hS7 := HK4.out (w6.alloc (.cells #[.int .i64 (i : Int), .int .i64 (j : Int), .int .i64 (i1 : Int), .int .i64 (i2 : Int)] 2)) ((hb5.trans (hb6.mono hb5.size)).alloc (Nat.le_trans hb5.size hb6.size) _)) | fail "no arm")
                  have hb56 := hb5.trans (hb6.mono hb5.size)
                  have hs6' : w2.heap.size ≤ w6.heap.size := Nat.le_trans hzq2 hb56.size
                  obtain ⟨w7, hw7⟩ : ∃ w7, w7 = w6.alloc (.cells #[.int .i64 (i : Int), .int .i64 (j : Int), .int .i64 (i1 : Int), .int .i64 (i2 : Int)] 2) := ⟨_, rfl⟩
                  have hb67 : Below w6.heap.size w6 w7 := by rw [hw7]; exact below_boxed w6 _
                  have hq7 : OwnI w7 w6.heap.size (some ⟨w6.heap.size, 0, none⟩) 4 [(i : Int), (j : Int), (i1 : Int), (i2 : Int)] := by rw [hw7]; exact OwnI.lit4Q w6 _ _ _ _ (Nat.le_refl _)
                  have HSt := Lib.hid (sort_c w7 hq7 (n := 4) rfl (by omega))
                  have HQd := Lib.hid (show sortL [(i : Int), (j : Int), (i1 : Int), (i2 : Int)] = qd xss i j t from by unfold qd; rw [HQo.out, HQt.out])
                  have HB67 := Lib.hid hb67
                  have HB56 := Lib.hid hb56
                  have HW7 := Lib.hid hw7
                  have hsz67 : w6.heap.size < w7.heap.size := by rw [hw7]; simp
                  clear hw7 hb67 hq7 hb5 hb6 hb56 hS hS5 hS6 hS7
                  go_wp2_with fail
                  rw [← HW7.out]
                  refine (HSt.out).mono ?_
                  rintro e wb ⟨rfl, hqb, hgb⟩
                  rw [HQd.out] at hqb
                  have hb6b : Below w6.heap.size w6 wb := HB67.out.trans (Below.of_grown hgb (Nat.le_of_lt hsz67) (fun g e => by rw [blk_some] at e; injection e with e; omega))
                  have hbb := HB56.out.trans (hb6b.mono HB56.out.size)
                  have HBb := Lib.hid (HBq.out.trans (hbb.mono hzq2))
                  have hszb := HBb.out.size
                  have hg8l : g8 < wz.drew.heap.size := cell_size HCq.out.1
                  have HOb := Lib.hid ((HOq.out.below hbb).alloc (.cells #[.slice (some ⟨w6.heap.size, 0, none⟩) 4 4] 35))
                  have HIb := Lib.hid ((hqb.lower (lo' := w2.heap.size) hs6').alloc (.cells #[.slice (some ⟨w6.heap.size, 0, none⟩) 4 4] 35))
                  have HAb := Lib.hid (later_apart HOq.out (hqb.lower (lo' := wz.drew.heap.size) HB56.out.size))
                  have HPb := Lib.hid ((HPq.out.below hbb).alloc (.cells #[.slice (some ⟨w6.heap.size, 0, none⟩) 4 4] 35))
                  have HQb := Lib.hid ((HQq.out.below hbb).alloc (.cells #[.slice (some ⟨w6.heap.size, 0, none⟩) 4 4] 35))
                  have HRb := Lib.hid ((HRq.out.below hbb).alloc (.cells #[.slice (some ⟨w6.heap.size, 0, none⟩) 4 4] 35))
                  have HCb := Lib.hid (keepQ2 (p1 := ⟨g8, 0, none⟩) (p2 := ⟨g8, 1, none⟩) (hbb.alloc hbb.size (.cells #[.slice (some ⟨w6.heap.size, 0, none⟩) 4 4] 35)) hg8l hg8l HCq.out)
                  have HL4 := Lib.hid (show (qd xss i j t).length = 4 from by unfold qd; rw [sortL_len]; rfl)
                  have hg8b : g8 < wb.heap.size := Nat.lt_of_lt_of_le hg8l hbb.size
                  clear hqb hgb hb6b hbb
                  go_wp2_with (at_builtin; refine wpM_append rfl _ _ rfl w2.heap.size _ _ _ R' ((qAll xss i ++ qRow xss i j) ++ qTo xss i j t) (some ⟨w6.heap.size, 0, none⟩) 4 4 (qd xss i j t) wb.heap.size rfl rfl HS.out HL4.out HOb.out HIb.out HAb.out (World.cell?_alloc_at _ _ _ _ rfl) (by omega) (by simp; omega) ?_; intro A9 c9 R9 w9 ho9 hg9 ha9)
                  have HB9 := Lib.hid ((HBb.out.alloc HBb.out.size (.cells #[.slice (some ⟨w6.heap.size, 0, none⟩) 4 4] 35)).trans (below_blkM HOb.out hg9 (Nat.le_refl _) (by simp; omega)))
                  have HO9 := Lib.hid (show OwnM w9 w2.heap.size A9 c9 R9 ((qAll xss i ++ qRow xss i j) ++ qTo xss i j (t + 1)) from by rw [HNx.out, ← List.append_assoc]; exact ho9)
                  have HS9 := Lib.hid (show ((qAll xss i ++ qRow xss i j) ++ qTo xss i j (t + 1)).length = s + 1 from by rw [HNx.out, ← List.append_assoc, List.length_append, HS.out]; rfl)
                  have HP9 := Lib.hid (OwnI.other_type HOb.out.own hg9 HPb.out)
                  have HQ9 := Lib.hid (OwnI.other_type HOb.out.own hg9 HQb.out)
                  have HR9 := Lib.hid (OwnI.other_type HOb.out.own hg9 HRb.out)
                  have HC9 := Lib.hid (And.intro (grown_cell hg9 HCb.out.1 (fun e => HA.out g8 e rfl)) (grown_cell hg9 HCb.out.2 (fun e => HA.out g8 e rfl)))
                  have HA9 := Lib.hid (show ∀ g, blk A9 = some g → g ≠ g8 from fun g e => by
                    rcases ha9 with h | h
                    · exact HA.out g (h ▸ e)
                    · rw [h] at e; injection e with e; simp at e; omega)
                  clear ho9 hg9 ha9
                  go_wp2
                  go_roundw
                  case rel => exact ⟨t + 1, s + 1, A9, c9, R9, by omega, by go_num, rfl, HS9, HO9, HB9, HP9, HQ9, HR9, HC9, HA9⟩
                  case measure => simp [intOf] <;> omega
              · obtain rfl : t = 2 := by omega
                have HS9 := Lib.hid (show (qAll xss i ++ qRow xss i (j + 1)).length = s from by rw [qRow_succ, HPr.out, ← List.append_assoc]; exact HS.out)
                have HO9 := Lib.hid (show OwnM wr w2.heap.size A' c' R' (qAll xss i ++ qRow xss i (j + 1)) from by rw [qRow_succ, HPr.out, ← List.append_assoc]; exact HO.out)
                go_wp2
                go_roundw
                case rel => exact ⟨j + 1, s, A', c', R', by omega, by go_num, rfl, HS9, HO9, HB⟩
                case measure => simp [intOf] <;> omega
          · have HNo := Lib.hid (show qRow xss i (j + 1) = qRow xss i j from by rw [qRow_succ, show qPair xss i j = [] from if_neg hm, List.append_nil])
            have hne : ((n4 : Int) != 1) = true := by
              have : n4 ≠ 1 := fun e => hm (hn4.trans e)
              simp; omega
            have hne2 : ((n4 : Int) == 1) = false := by simpa using hne
            have HS4 := Lib.hid (show (qAll xss i ++ qRow xss i (j + 1)).length = s from by rw [HNo.out]; exact HS.out)
            have HO5 := Lib.hid (show OwnM w4 w2.heap.size A' c' R' (qAll xss i ++ qRow xss i (j + 1)) from by rw [HNo.out]; exact HO4.out)
            clear hm hn4 ho4 hb4
            go_wp2
            go_roundw
            case rel => exact ⟨j + 1, s, A', c', R', by omega, by go_num, rfl, HS4, HO5, HB4⟩
            case measure => simp [intOf] <;> omega
        · obtain rfl : j = i := by omega
          have HS9 := Lib.hid (show (qAll xss (j + 1)).length = s from by rw [qAll_succ]; exact HS.out)
          have HO9 := Lib.hid (show OwnM wr w2.heap.size A' c' R' (qAll xss (j + 1)) from by rw [qAll_succ]; exact HO.out)
          go_wp2
          go_roundw
          case rel => exact ⟨j + 1, s, A', c', R', by omega, by go_num, rfl, HS9, HO9, HB⟩
          case measure => simp [intOf] <;> omega
    · obtain rfl : i = n := by omega
      have hs : s ≤ 32768 := by have := HS.out; have := qAll_len (xss := xss) hn128; omega
      have HSo := Lib.hid (sortM_c wr HO.out HS.out (by omega))
      have HBw := Lib.hid (HB2.out.trans (HB.out.mono HB2.out.size))
      have HBl := Lib.hid (show ∀ w', wr.grownBy w' (blk A') → Below w2.heap.size wr w' from fun w' hg => below_blkM HO.out hg (Nat.le_refl _) hszi)
      have HQd := Lib.hid (show qdR xss = compLL (sortLL (qAll xss i)) from by unfold qdR; rw [HN.out])
      go_wp2_with fail
      refine (HSo.out).mono ?_
      rintro e w3 ⟨rfl, ⟨R3', ho3⟩, hg3⟩
      have HLs := Lib.hid (show (sortLL (qAll xss i)).length = s from by rw [sortLL_len]; exact HS.out)
      have HCf := Lib.hid (by
        have hD := ho3.toD
        rw [HLs.out] at hD
        exact compact_f w3 w2.heap.size s c' A' (fun k => ((R3' k).1, (R3' k).2, row (sortLL (qAll xss i)) k)) (sortLL (qAll xss i)) (fun k _ => rfl) HLs.out hD (by omega))
      have HB3 := Lib.hid (HBw.out.trans ((HBl.out w3 hg3).mono HB2.out.size))
      have hs3 : w2.heap.size ≤ w3.heap.size := Nat.le_trans hszi hg3.size
      have HOf := Lib.hid ho3
      clear ho3 hg3
      go_wp2_with fail
      refine (HCf.out).mono ?_
      rintro e w4 ⟨rfl, ho4, hg4⟩
      have HO4 := Lib.hid ho4
      have HB4 := Lib.hid (HB3.out.trans ((below_blkM HOf.out hg4 (Nat.le_refl _) hs3).mono HB2.out.size))
      clear ho4 hg4
      go_wp2
      go_ret
      obtain ⟨R4, h4⟩ := HO4.out.toM
      have hco : cont (dsOf (fun k => ((R3' k).1, (R3' k).2, row (sortLL (qAll xss i)) k)) (kept (sortLL (qAll xss i)) s)) = compLL (sortLL (qAll xss i)) := by
        unfold cont dsOf compLL
        rw [List.map_map, HLs.out]
        rfl
      rw [hco] at h4
      exact ⟨⟨A', _, c', R4, rfl, by rw [HQd.out], by rw [HQd.out]; exact h4.lower HB2.out.size⟩, HB4.out⟩
end Go.Proofs.YtmmkmkbpgcbehaaGreat
