/-
  IsCyclicDesign of both sides. Conditions: those of each theorem.
-/
import Derived.Test.YtdcegepkgcflpaaCycP
import Derived.Test.YtdcegepkgcflpaaSame
namespace Go.Proofs.Ytdcegepkgcflpaa
open Go.RowKit
set_option linter.unusedVariables false
set_option linter.unusedSimpArgs false

set_option maxRecDepth 100000 in
set_option maxHeartbeats 8000000 in
theorem specIsCyclicDesign_c (w : World) (p : Int) (hp : -9223372036854775808 ≤ p ∧ p ≤ 9223372036854775807) (A : Option Addr) (n c : Nat) (R : Spine) (xss : List (List Int)) (hr : RdM w A c R xss) (hn : xss.length = n) (hw : WfM xss) (hz : (n : Int) + (tot xss : Nat) ≤ 1048576) :
    Calls Try.prog 18 #[.agg #[.int .i64 p, .slice A n c]] w (PostV w (.bool (cyB p xss))) := by
  clear hw hz
  have hzD := zeroD
  obtain ⟨wa, hwa⟩ : ∃ wa, wa = w.alloc (.cells #[.int .i64 p, .slice A n c] 25) := ⟨_, rfl⟩
  have hXa : BoxD wa w.heap.size p A n c := by rw [hwa]; exact BoxD.made _ _ _ _ _ _
  have hBa : Below w.heap.size w wa := by rw [hwa]; exact below_boxed _ _
  have hsa : w.heap.size + 1 ≤ wa.heap.size := by rw [hwa]; simp
  have HXa := Lib.hid hXa
  have HBa := Lib.hid hBa
  have hO := l10Ok_c wa w.heap.size A n c R xss p hXa (hr.below hBa) hn
  rw [hwa] at hO
  rcases hd : dsgB p xss with _ | _
  · rw [hd] at hO
    rw [show cyB p xss = false by unfold cyB; rw [hd]; rfl]
    have HO := Lib.hid hO
    have HWa := Lib.hid hwa
    clear hO hwa hXa hBa hr hn hp hd
    go_enter Try.func18, Try.ntmps18
    go_wp2_with fail
    refine (HO.out).mono ?_
    rintro e w' ⟨rfl, q, rfl⟩
    rw [← HWa.out]
    have HB2 := Lib.hid (below_drewN HBa.out q)
    go_wp2
    go_ret
    exact ⟨rfl, HB2.out⟩
  rw [hd] at hO
  have hD := dsgB_true.1 hd
  have hn128 : n ≤ 128 := by have := hD.2.1; omega
  obtain ⟨P, rfl⟩ : ∃ P : Nat, p = (P : Int) := ⟨p.toNat, by have := hD.1.1; omega⟩
  have hP1 : 1 ≤ P := by have := hD.1.1; omega
  have hP : P ≤ 32 := by have := hD.1.2; omega
  rw [show cyB (P : Int) xss = decide (sortLL (rbR (stTo P P) xss) = xss) by unfold cyB; rw [hd]; rfl]
  have HO := Lib.hid hO
  have HWa := Lib.hid hwa
  have HIm := Lib.hid (fun (W : World) (hX : BoxD W w.heap.size (P : Int) A n c) (hb : Below w.heap.size w W) (B : Option Addr) (d : Nat) (hy : RdI W B d (stTo P P)) => l10Image_c W w.heap.size (P : Int) A B n c P d R xss (stTo P P) hX (hr.below hb) hn hn128 hy (stTo_len P P) hP (fun k hk => blockB_set (hD.2.2 k hk).1) (fun k hk => by have := (hD.2.2 k hk).1; unfold blockB at this; rw [Bool.and_eq_true, decide_eq_true_eq] at this; exact this.1))
  have HSm := Lib.hid (fun (W : World) (hb : Below w.heap.size w W) (B : Option Addr) (m d : Nat) (S : Spine) (yss : List (List Int)) (hy : RdM W B d S yss) (hm : yss.length = m) => l10Same_c W B A m n d c S R yss xss hy hm (hr.below hb) hn)
  generalize sortLL (rbR (stTo P P) xss) = lst at *
  clear hO hwa hXa hBa hr hn hp hd hD
  go_enter Try.func18, Try.ntmps18
  go_wp2_with fail
  refine (HO.out).mono ?_
  rintro e w' ⟨rfl, q, rfl⟩
  rw [← HWa.out]
  have HX2 := Lib.hid (HXa.out.drewN q)
  have HB2 := Lib.hid (below_drewN HBa.out q)
  have hs2 : w.heap.size + 1 ≤ (wa.drewN q).heap.size := hsa
  generalize wa.drewN q = w2 at *
  have HI0 := Lib.hid (OwnI.lit0 w2 (Nat.le_refl w2.heap.size))
  have HIb := Lib.hid ((Below.refl w2.heap.size w2).alloc (Nat.le_refl _) (.cells #[] 2))
  go_wp2
  go_loopw [3, 4] (fun o v wr => ∃ (k : Nat) (A' : Option Addr) (c' : Nat), k ≤ P ∧ v = .int .i64 k ∧ o = .slice A' k c' ∧ Hid (OwnI wr w2.heap.size A' c' (stTo P k)) ∧ Hid (Below w2.heap.size w2 wr)) (fun _ v _ => P - (intOf v).toNat)
  case atStart => exact ⟨0, _, _, Nat.zero_le _, rfl, rfl, HI0, HIb⟩
  case round =>
    obtain ⟨k, A', c', hk, rfl, rfl, HO3, HB3⟩ := hrel
    have hx3 := HX2.out.below HB3.out
    have hc0 := hx3.c0
    have hc1 := hx3.c1
    have hsz3 := HB3.out.size
    by_cases hlt : k < P
    · have HLk := Lib.hid (stTo_len P k)
      have HSu := Lib.hid (show stTo P k ++ [((k : Int) + 1) % (P : Int)] = stTo P (k + 1) by rw [stTo_succ, show stF P k = ((k : Int) + 1) % (P : Int) by unfold stF; simp])
      have hP0 : ¬ P = 0 := by omega
      have hP1 : ((P : Int) == 0) = false := by simp [hP0]
      have hP2 : ¬ (P : Int) = 0 := by omega
      clear hx3
      go_wp2_with (at_builtin; refine wpI_append rfl _ _ rfl w2.heap.size _ _ _ (stTo P k) (((k : Int) + 1) % (P : Int)) wr.heap.size rfl rfl HLk.out (HO3.out.alloc (.cells #[.int .i64 (((k : Int) + 1) % (P : Int))] 2)) (World.cell?_alloc_at _ _ _ _ rfl) (by omega) (by simp; omega) ?_; intro A3 c3 w3 ho3 hg3 ha3)
      have hB3 : Below w2.heap.size w2 w3 := (HB3.out.alloc HB3.out.size (.cells #[.int .i64 (((k : Int) + 1) % (P : Int))] 2)).trans (below_blk (HO3.out.alloc (.cells #[.int .i64 (((k : Int) + 1) % (P : Int))] 2)) hg3 (Nat.le_refl _) (by simp; omega))
      have HO3 := Lib.hid ho3
      have HB3 := Lib.hid hB3
      clear ho3 hg3 ha3 hB3
      have HO4 := Lib.hid (show OwnI w3 w2.heap.size A3 c3 (stTo P (k + 1)) from by rw [← HSu.out]; exact HO3.out)
      clear hc0 hc1
      go_wp2
      go_roundw
      case rel => exact ⟨k + 1, A3, c3, by omega, by go_num, rfl, HO4, HB3⟩
      case measure => simp [intOf]; omega
    · obtain rfl : k = P := by omega
      have HBw := Lib.hid (HB2.out.trans (HB3.out.mono HB2.out.size))
      have HX3 := Lib.hid hx3
      have HIw := Lib.hid (HIm.out wr HX3.out HBw.out A' c' HO3.out.rd)
      clear hx3
      go_wp2_with fail
      refine (HIw.out).mono ?_
      rintro e w4 ⟨⟨A4, n4, c4, R4, rfl, hn4, ho4⟩, hb4⟩
      obtain ⟨wz, hwz⟩ : ∃ wz, wz = w4.alloc (.cells #[.int .i64 (k : Int), .slice A4 n4 c4] 25) := ⟨_, rfl⟩
      have HBz := Lib.hid (show Below w.heap.size w wz from by rw [hwz]; exact (HBw.out.trans (hb4.mono HBw.out.size)).alloc (Nat.le_trans HBw.out.size hb4.size) _)
      have HO4 := Lib.hid (show RdM wz A4 c4 R4 lst from by rw [hwz]; exact (ho4.alloc _).rd)
      have hx4 : BoxD wz w.heap.size (k : Int) A n c := by rw [hwz]; exact (HX3.out.below hb4).below (below_boxed _ _)
      have hSz := HSm.out wz HBz.out A4 n4 c4 R4 lst HO4.out hn4
      rw [hwz] at hSz
      have hx1 := hx4.c1
      rw [hwz] at hx1
      have HSz := Lib.hid hSz
      have HWz := Lib.hid hwz
      clear hn4 ho4 hb4 hSz hwz hx4 hc0 hc1
      go_wp2_with fail
      refine (HSz.out).mono ?_
      rintro e w' ⟨rfl, q9, rfl⟩
      rw [← HWz.out]
      have HB9 := Lib.hid (below_drewN HBz.out q9)
      clear hx1
      go_wp2
      go_ret
      exact ⟨rfl, HB9.out⟩

set_option maxRecDepth 100000 in
set_option maxHeartbeats 8000000 in
theorem implIsCyclicDesign_c (w : World) (p : Int) (hp : -9223372036854775808 ≤ p ∧ p ≤ 9223372036854775807) (A : Option Addr) (n c : Nat) (R : Spine) (xss : List (List Int)) (hr : RdM w A c R xss) (hn : xss.length = n) (hw : WfM xss) (hz : (n : Int) + (tot xss : Nat) ≤ 1048576) :
    Calls Try.prog 20 #[.agg #[.int .i64 p, .slice A n c]] w (PostV w (.bool (cyB p xss))) := by
  clear hw hz
  obtain ⟨wa, hwa⟩ : ∃ wa, wa = w.alloc (.cells #[.int .i64 p, .slice A n c] 25) := ⟨_, rfl⟩
  have hXa : BoxD wa w.heap.size p A n c := by rw [hwa]; exact BoxD.made _ _ _ _ _ _
  have hBa : Below w.heap.size w wa := by rw [hwa]; exact below_boxed _ _
  have hsa : w.heap.size + 1 ≤ wa.heap.size := by rw [hwa]; simp
  have HXa := Lib.hid hXa
  have HBa := Lib.hid hBa
  have hO := ValidDesign_c wa p A n c R xss (hr.below hBa) hn
  rw [hwa] at hO
  rcases hd : dsgB p xss with _ | _
  · rw [hd] at hO
    rw [show cyB p xss = false by unfold cyB; rw [hd]; rfl]
    have HO := Lib.hid hO
    have HWa := Lib.hid hwa
    clear hO hwa hXa hBa hr hn hp hd
    go_enter Try.func20, Try.ntmps20
    go_wp2_with fail
    refine (HO.out).mono ?_
    rintro e w2 ⟨rfl, hb2⟩
    rw [← HWa.out] at hb2
    have HB2 := Lib.hid (HBa.out.trans (hb2.mono HBa.out.size))
    clear hb2
    go_wp2
    go_ret
    exact ⟨rfl, HB2.out⟩
  rw [hd] at hO
  have hD := dsgB_true.1 hd
  have hn128 : n ≤ 128 := by have := hD.2.1; omega
  obtain ⟨P, rfl⟩ : ∃ P : Nat, p = (P : Int) := ⟨p.toNat, by have := hD.1.1; omega⟩
  have hP1 : 1 ≤ P := by have := hD.1.1; omega
  have hP : P ≤ 32 := by have := hD.1.2; omega
  rw [show cyB (P : Int) xss = decide (sortLL (rbR (stTo P P) xss) = xss) by unfold cyB; rw [hd]; rfl]
  have HO := Lib.hid hO
  have HWa := Lib.hid hwa
  have HRe := Lib.hid (fun (W : World) (hb : Below w.heap.size w W) (B : Option Addr) (d : Nat) (hy : RdI W B d (stTo P P)) => relabeled_c W (P : Int) A B n c P d R xss (stTo P P) (hr.below hb) hn hn128 hy (stTo_len P P) hP (st_perm hP1) (fun k hk => blockB_set (hD.2.2 k hk).1))
  have HSm := Lib.hid (fun (W : World) (hb : Below w.heap.size w W) (B : Option Addr) (m d : Nat) (S : Spine) (yss : List (List Int)) (hy : RdM W B d S yss) (hm : yss.length = m) => SameDesign_c W (P : Int) B A m n d c S R yss xss hy hm (hr.below hb) hn)
  generalize sortLL (rbR (stTo P P) xss) = lst at *
  clear hO hwa hXa hBa hr hn hp hd hD
  go_enter Try.func20, Try.ntmps20
  go_wp2_with fail
  refine (HO.out).mono ?_
  rintro e w2 ⟨rfl, hb2⟩
  rw [← HWa.out] at hb2
  have HX2 := Lib.hid (HXa.out.below hb2)
  have HB2 := Lib.hid (HBa.out.trans (hb2.mono HBa.out.size))
  have hs2 : w.heap.size + 1 ≤ w2.heap.size := by have := hb2.size; omega
  have hc0 := HX2.out.c0
  have hc1 := HX2.out.c1
  have HId := Lib.hid (identity_c w2 P (by omega))
  clear hb2
  go_wp2_with fail
  refine (HId.out).mono ?_
  rintro e w3 ⟨⟨A3, n3, c3, rfl, hn3, ho3⟩, hb3⟩
  obtain rfl : P = n3 := by rw [← hn3, idL_len]
  obtain ⟨G, eG, hG1, hG2, _⟩ := ho3.at_ (k := 0) (by rw [idL_len]; omega)
  subst eG
  have HX3 := Lib.hid (HX2.out.below hb3)
  have HB3 := Lib.hid (HB2.out.trans (hb3.mono HB2.out.size))
  have HO3 := Lib.hid (show OwnI w3 w2.heap.size (some ⟨G, 0, none⟩) c3 (stMv P 0) from by rw [stMv_zero]; exact ho3)
  have hs3 : w.heap.size + 1 ≤ w3.heap.size := by have := hb3.size; omega
  have HG := Lib.hid hG1
  have HB23 := Lib.hid hb3
  clear hb3 ho3 hn3 hc0 hc1
  go_wp2
  go_loopw [13] (fun v wr => ∃ k : Nat, k ≤ P ∧ v = .int .i64 k ∧ Hid (OwnI wr w2.heap.size (some ⟨G, 0, none⟩) c3 (stMv P k)) ∧ Hid (Below w2.heap.size w2 wr)) (fun v _ => P - (intOf v).toNat)
  case atStart => exact ⟨0, Nat.zero_le _, rfl, HO3, HB23⟩
  case round =>
    obtain ⟨k, hk, rfl, HO4, HB4⟩ := hrel
    have hx4 := HX2.out.below HB4.out
    have hc0 := hx4.c0
    have hc1 := hx4.c1
    by_cases hlt : k < P
    · have hlen := stMv_len P k
      obtain ⟨g, eg, _, _, hcg, hfg⟩ := HO4.out.at_ (k := k) (by rw [hlen]; exact hlt)
      injection eg with eg
      injection eg with eg
      subst eg
      rw [stMv_nth hlt (Nat.le_refl _)] at hcg
      have hst := HO4.out.stored k (((k : Int) + 1).tmod (P : Int))
      rw [stF_tmod, stMv_set hlt] at hst
      have HO5 := Lib.hid (show OwnI (wr.setCell ⟨G, k, none⟩ (.int .i64 (((k : Int) + 1).tmod (P : Int)))) w2.heap.size (some ⟨G, 0, none⟩) c3 (stMv P (k + 1)) from by rw [stF_tmod]; exact hst)
      have HB5 := Lib.hid (HB4.out.setCell (p := ⟨G, k, none⟩) HG.out (.int .i64 (((k : Int) + 1).tmod (P : Int))))
      have hP0 : ¬ P = 0 := by omega
      have hP1' : ((P : Int) == 0) = false := by simp [hP0]
      have hP2 : ¬ (P : Int) = 0 := by omega
      have hk0 : (0 : Int) ≤ (k : Int) := by omega
      have hk2 : (k : Int) < (P : Int) := by omega
      have q1 : IntKind.i64.wrap ((k : Int) + 1) = (k : Int) + 1 := IntWalk.i64_in _ (by omega)
      have q2 : IntKind.i64.wrap (((k : Int) + 1).tmod (P : Int)) = ((k : Int) + 1).tmod (P : Int) := IntWalk.i64_in _ (by rw [stF_tmod]; unfold stF; have := Nat.mod_lt (k + 1) (show 0 < P by omega); omega)
      clear hst hlen hx4
      go_wp2
      go_region
      all_goals (clear q1 q2)
      all_goals go_wp2
      all_goals go_roundw
      case rel => exact ⟨k + 1, by omega, by go_num, HO5, HB5.out.drew⟩
      case measure => simp [intOf]; omega
    · obtain rfl : k = P := by omega
      have HOf := Lib.hid (show OwnI wr w2.heap.size (some ⟨G, 0, none⟩) c3 (stTo k k) from by rw [← stMv_all]; exact HO4.out)
      have HBw := Lib.hid (HB2.out.trans (HB4.out.mono HB2.out.size))
      have HBd := Lib.hid (show Below w.heap.size w wr.drew from HBw.out.drew)
      have HRw := Lib.hid (HRe.out wr.drew HBd.out (some ⟨G, 0, none⟩) c3 (show RdI wr.drew (some ⟨G, 0, none⟩) c3 (stTo k k) from HOf.out.rd.drewN 1))
      have hxl : w.heap.size < wr.drew.heap.size := by show w.heap.size < wr.heap.size; have := HB4.out.size; omega
      clear hx4
      go_wp2
      go_region_held3 (fun w' => w'.cell? ⟨w.heap.size, 0, none⟩ = some (.int .i64 (k : Int)) ∧ w'.cell? ⟨w.heap.size, 1, none⟩ = some (.slice A n c)) (first | exact ⟨hc0, hc1⟩ | exact hS6 | exact hS8)
        (first | (go_at_call 47; refine (HRw.out).mono ?_; rintro e w6 ⟨⟨A6, n6, c6, R6, rfl, hn6, ho6⟩, hb6⟩; have hS6 := And.intro ((hb6.cell (p := ⟨w.heap.size, 0, none⟩) hxl).trans hc0) ((hb6.cell (p := ⟨w.heap.size, 1, none⟩) hxl).trans hc1); have hB6 := HBd.out.trans (hb6.mono HBd.out.size)) | (go_at_call 46; refine (HSm.out w6 hB6 A6 n6 c6 R6 lst ho6.rd hn6).mono ?_; rintro e w8 ⟨rfl, hb8⟩; have hb68 := hb6.trans (hb8.mono hb6.size); have hS8 := And.intro ((hb68.cell (p := ⟨w.heap.size, 0, none⟩) hxl).trans hc0) ((hb68.cell (p := ⟨w.heap.size, 1, none⟩) hxl).trans hc1)))
      have HB8 := Lib.hid (hB6.trans (hb8.mono hB6.size))
      clear hb6 hb8 hb68 ho6 hn6 hS6 hS8
      go_wp2
      go_ret
      exact ⟨rfl, HB8.out⟩
end Go.Proofs.Ytdcegepkgcflpaa
