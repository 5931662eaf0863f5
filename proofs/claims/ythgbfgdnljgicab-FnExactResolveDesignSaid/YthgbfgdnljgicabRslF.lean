/-
  The program's search for a resolution: begin, one step. Conditions: those of each theorem.
-/
import Derived.Test.YthgbfgdnljgicabRslE
namespace Go.Proofs.Ythgbfgdnljgicab
open Go.RowKit
set_option linter.unusedVariables false
set_option linter.unusedSimpArgs false

theorem Fr.fresh {lo gu gm : Nat} {w w' : World} (h : Fr lo gu (some gm) w w') (hm : w.heap.size ≤ gm) : Fr lo gu none w w' :=
  ⟨h.below, fun b cur fz e h1 _ => h.flags b cur fz e h1 (fun e2 => by injection e2 with e2; have := (Array.getElem?_eq_some_iff.1 e).1; omega)⟩
section
variable {w0 wo w8 : World} {g left P n c gu gm s kc kc' : Nat} {sp : Bool} {A K K' : Option Addr} {R' : Spine} {X' : List (List Int)} {U : List Bool} {cv : Value}
theorem open_end (hg : w0.heap.size ≤ g) (ob : w8.heap[g]? = some (rsObj left sp P A n c gu K s kc cv)) (us : OwnB w8 w0.heap.size gu n U) (bl : Below w0.heap.size w0 w8) (fr : Fr w0.heap.size gu none wo w8) (ks : OwnM w8 w0.heap.size K' kc' R' X') (hm : OwnB w8 w0.heap.size gm P (covV P [])) (t : Nat) :
    TkW w0 wo ((w8.setCell ⟨g, 5, none⟩ (.slice K' t kc')).setCell ⟨g, 6, none⟩ (.slice (some ⟨gm, 0, none⟩) P P)) g left sp P A n c gu gm K' t kc' R' X' U [] := by
  have h1 := rs_set5 ob K' t kc'
  have e1 : gu ≠ g := fun e => rs_flag_ne ob us e.symm
  have e2 : gm ≠ g := fun e => rs_flag_ne ob hm e.symm
  have k1 := rs_set_ks (k := 5) (v := .slice K' t kc') ob ks
  have k2 := rs_set_ks (k := 6) (v := .slice (some ⟨gm, 0, none⟩) P P) h1 k1
  exact ⟨rs_set6 h1 _, (us.setCell_other (p := ⟨g, 5, none⟩) e1 _).setCell_other (p := ⟨g, 6, none⟩) e1 _, (hm.setCell_other (p := ⟨g, 5, none⟩) e2 _).setCell_other (p := ⟨g, 6, none⟩) e2 _, k2, (bl.setCell (p := ⟨g, 5, none⟩) hg _).setCell (p := ⟨g, 6, none⟩) hg _,
    (fr.weak _).trans ((Fr.set ob (by decide) hg 5 _).trans (Fr.set h1 (by decide) hg 6 _))⟩
theorem open_end2 (hg : w0.heap.size ≤ g) (ob : w8.heap[g]? = some (rsObj left sp P A n c gu K s kc cv)) (us : OwnB w8 w0.heap.size gu n U) (bl : Below w0.heap.size w0 w8) (fr : Fr w0.heap.size gu none wo w8) (ks : OwnM w8 w0.heap.size K' kc' R' X') (hP : P ≤ 32) (t : Nat) :
    TkW w0 wo (((w8.setCell ⟨g, 5, none⟩ (.slice K' t kc')).setCell ⟨g, 6, none⟩ (.slice (some ⟨w8.heap.size, 0, none⟩) P P)).alloc (.cells (madeCells #[.bool false] P) 4)) g left sp P A n c gu w8.heap.size K' t kc' R' X' U [] := by
  have h1 := rs_set5 ob K' t kc'
  have h2 := rs_set6 h1 (.slice (some ⟨w8.heap.size, 0, none⟩) P P)
  have e1 : gu ≠ g := fun e => rs_flag_ne ob us e.symm
  have k2 := rs_set_ks (k := 6) (v := .slice (some ⟨w8.heap.size, 0, none⟩) P P) h1 (rs_set_ks (k := 5) (v := .slice K' t kc') ob ks)
  have hm := OwnB.made ((w8.setCell ⟨g, 5, none⟩ (.slice K' t kc')).setCell ⟨g, 6, none⟩ (.slice (some ⟨w8.heap.size, 0, none⟩) P P)) P (by unfold maxLen; omega) (lo := w0.heap.size) (by have := bl.size; simpa using this)
  rw [← covV_nil] at hm
  have hsz : ((w8.setCell ⟨g, 5, none⟩ (.slice K' t kc')).setCell ⟨g, 6, none⟩ (.slice (some ⟨w8.heap.size, 0, none⟩) P P)).heap.size = w8.heap.size := by simp
  rw [hsz] at hm
  have b2 := (bl.setCell (p := ⟨g, 5, none⟩) hg (.slice K' t kc')).setCell (p := ⟨g, 6, none⟩) hg (.slice (some ⟨w8.heap.size, 0, none⟩) P P)
  exact ⟨((below_boxed _ _).block g (rs_lt h2)).trans h2, ((us.setCell_other (p := ⟨g, 5, none⟩) e1 _).setCell_other (p := ⟨g, 6, none⟩) e1 _).alloc _, hm, k2.alloc _, b2.alloc b2.size _,
    (fr.weak _).trans (((Fr.set ob (by decide) hg 5 _).trans (Fr.set h1 (by decide) hg 6 _)).trans (Fr.of_below (below_boxed _ _) b2.size))⟩
end

set_option maxRecDepth 100000 in
set_option maxHeartbeats 16000000 in
theorem begin_step (w0 : World) {g P : Nat} {A : Option Addr} {n c gu : Nat} {R : Spine} {xss : List (List Int)} (hg : w0.heap.size ≤ g) (hr : RdM w0 A c R xss) (hn : xss.length = n) (hD : DsgOk (P : Int) xss) {f : Nat} (hE : ExtAt w0 g P A n c gu xss f) : BegAt w0 g P A n c gu xss (f + 1) := by
  intro w done left K kc Rk Ca cn cc hok hm hl hb
  have hn128 : n ≤ 128 := by have := hD.2.1; omega
  have hP32 : P ≤ 32 := by have := hD.1.2; omega
  have hdl : done.length ≤ n := by have := hok.small.1; omega
  have hI : Calls Try.prog 39 #[.slice (some ⟨gu, 0, none⟩) n n, .bool false] w fun e w' => e = .returned (.int .i64 (gapI xss.length (rsU done []))) ∧ w = w' := by
    have := indexB_c w (some ⟨gu, 0, none⟩) n n (covV n (rsU done [])) false hb.us.rd (by omega)
    unfold gapI
    rw [hn]
    exact this
  obtain ⟨q0, q1, q2, q3, q4, q5, q6⟩ := rs_cells hb.ob
  rcases gapI_or xss.length (rsU done []) with hv | ⟨k, hk, hv, hu⟩
  · have hR := Lib.hid (srch_b1 (P := P) (f := f) (left := left) (done := done) (show gapI xss.length (rsU done []) < 0 by omega))
    rw [hR.out]
    rw [hv] at hI
    have HI := Lib.hid hI
    have HB := Lib.hid hb
    clear hI hb hv hE hok hm hD hr
    go_enter Try.func20, Try.ntmps20
    go_wp2_with fail
    refine (HI.out).mono ?_
    rintro e w2 ⟨rfl, rfl⟩
    go_wp2
    go_ret
    exact ⟨rfl, HB.out.fr, HB.out.bl, left, K, kc, Rk, _, HB.out.ob, HB.out.ks⟩
  rw [hv] at hI
  have hnn : ¬ gapI xss.length (rsU done []) < 0 := by omega
  have HI := Lib.hid hI
  have HB := Lib.hid hb
  have hkn : k < n := by omega
  clear hI
  have hk0 : (0 : Int) ≤ (k : Int) := by omega
  rcases left with _ | l
  · have hR := Lib.hid (srch_b2 (P := P) (f := f) (done := done) hnn)
    rw [hR.out]
    have HNd := Lib.hid (node0_c w hb.ob)
    have HS := Lib.hid (hb.spent hg true)
    clear hb hv hE hok hm hD hr hnn hu
    go_enter Try.func20, Try.ntmps20
    go_wp2_with fail
    refine (HI.out).mono ?_
    rintro e w2 ⟨rfl, rfl⟩
    go_wp2_with fail
    refine (HNd.out).mono ?_
    rintro e w3 ⟨rfl, rfl⟩
    go_wp2
    go_ret
    exact ⟨rfl, K, kc, Rk, HS.out⟩
  have hR := Lib.hid (srch_b3 (P := P) (f := f) (l := l) (done := done) hv)
  rw [hR.out]
  have HNd := Lib.hid (node1_c w (by omega) hb.ob)
  have HB1 := Lib.hid (hb.left0 hg l)
  obtain ⟨hok1, hm1⟩ := hok.begin_ (dsg_rowsNodup hD) hk hu
  have HUs := Lib.hid (rsU_one done (k : Int))
  have HPt := Lib.hid (show ptC xss [(k : Int)] = [] ++ row xss k from by simp [ptC])
  have HEx := Lib.hid (fun (W : World) (gm : Nat) (K' : Option Addr) (kc' : Nat) (R' : Spine) (hne : gm ≠ gu) (h : TkW w0 W W g l false P A n c gu gm K' (done.length + 1) kc' R' (done ++ [[(k : Int)]]) (covV n (rsU done [] ++ [(k : Int)])) ([] ++ row xss k)) =>
    hE W done [(k : Int)] l gm K' kc' R' hok1 (by omega) (by simp) (by omega) hne (by rw [HUs.out, HPt.out]; exact h))
  have HTi := Lib.hid (fun (W : World) (gm : Nat) (K' : Option Addr) (kc' : Nat) (R' : Spine) (hne : gm ≠ gu) (h : TkW w0 W W g l false P A n c gu gm K' (done.length + 1) kc' R' (done ++ [[]]) (covV n (rsU done [])) []) =>
    takeIn_c w0 W (k := k) (Y := done) (ys := []) (T := done.length) (U := rsU done []) (L := []) hg h.ob h.us h.cv hne h.ks rfl R xss hr hn hD h.bl hkn (by omega) (by simp))
  have HTo := Lib.hid (fun (W : World) (l' : Nat) (sp' : Bool) (gm : Nat) (K' : Option Addr) (kc' : Nat) (R' : Spine) (hne : gm ≠ gu) (h : TkW w0 W W g l' sp' P A n c gu gm K' (done.length + 1) kc' R' (done ++ [[(k : Int)]]) (covV n (rsU done [(k : Int)])) (ptC xss [(k : Int)])) =>
    takeOut_c w0 W (k := k) (Y := done) (ys := []) (T := done.length) (U := rsU done []) (L := []) h.ob (by rw [← HUs.out]; exact h.us) R xss (by rw [← HPt.out]; exact h.cv) hne h.ks rfl hr hn hD h.bl hkn (by omega) (by simp) hu (by rw [List.nil_append]; exact dsg_rowsNodup hD k hk))
  have hsl : done.length ≤ 128 := by omega
  obtain ⟨s, hs⟩ : ∃ s, s = done.length := ⟨_, rfl⟩
  have HSd := Lib.hid hs.symm
  obtain ⟨p0, p1, p2, p3, p4, p5, p6⟩ := rs_cells HB1.out.ob
  rw [← hs] at q5 p5 hsl
  clear hb hv hE hok hm hD hr hnn hu hok1 hm1 hdl hk hs
  go_enter Try.func20, Try.ntmps20
  go_wp2_with fail
  refine (HI.out).mono ?_
  rintro e w2 ⟨rfl, rfl⟩
  go_wp2_with fail
  refine (HNd.out).mono ?_
  rintro e w1 ⟨rfl, hw1⟩
  rw [← hw1] at HB1 p0 p1 p2 p3 p4 p5 p6
  clear hw1 q0 q1 q2 q3 q4 q5 q6
  have hzw : w.heap.size ≤ w1.heap.size := HB1.out.fr.below.size
  go_wp2
  go_cut [28] (fun s28 wx => ∃ (gm : Nat) (K' : Option Addr) (kc' : Nat) (R' : Spine), w.heap.size ≤ gm ∧ gm ≠ gu ∧ Hid (TkW w0 w wx g l false P A n c gu gm K' (s + 1) kc' R' (done ++ [[]]) (covV n (rsU done [])) []))
  case first =>
    have HOi := Lib.hid (OwnI.nil_ (w1.alloc (.cells #[.slice none 0 0] 43)).drew w0.heap.size)
    have HK1 := Lib.hid (show OwnM (w1.alloc (.cells #[.slice none 0 0] 43)).drew w0.heap.size K kc Rk done from (HB1.out.ks.alloc _).drewN 1)
    have HK2 := Lib.hid (show OwnM ((w1.alloc (.cells #[.slice none 0 0] 43)).alloc (.cells (madeCells #[.bool false] P) 4)).drew w0.heap.size K kc Rk done from ((HB1.out.ks.alloc _).alloc _).drewN 1)
    have HK3 := Lib.hid (show OwnM ((w1.alloc (.cells (madeCells #[.bool false] P) 4)).alloc (.cells #[.slice none 0 0] 43)).drew w0.heap.size K kc Rk done from ((HB1.out.ks.alloc _).alloc _).drewN 1)
    have HW1 := Lib.hid (show BgW w0 w (w1.alloc (.cells #[.slice none 0 0] 43)).drew g l false P A n c gu K done.length kc Rk done (covV n (rsU done [])) (.slice Ca cn cc) from (HB1.out.alloc _).drew)
    have HW2 := Lib.hid (show BgW w0 w ((w1.alloc (.cells #[.slice none 0 0] 43)).alloc (.cells (madeCells #[.bool false] P) 4)).drew g l false P A n c gu K done.length kc Rk done (covV n (rsU done [])) (.slice Ca cn cc) from ((HB1.out.alloc _).alloc _).drew)
    have HW3 := Lib.hid (show BgW w0 w ((w1.alloc (.cells (madeCells #[.bool false] P) 4)).alloc (.cells #[.slice none 0 0] 43)).drew g l false P A n c gu K done.length kc Rk done (covV n (rsU done [])) (.slice Ca cn cc) from ((HB1.out.alloc _).alloc _).drew)
    have HM2 := Lib.hid (show OwnB ((w1.alloc (.cells #[.slice none 0 0] 43)).alloc (.cells (madeCells #[.bool false] P) 4)).drew w0.heap.size (w1.heap.size + 1) P (covV P []) from by
      have := OwnB.made (w1.alloc (.cells #[.slice none 0 0] 43)) P (by unfold maxLen; omega) (lo := w0.heap.size) (by have := HB1.out.bl.size; simp; omega)
      rw [← covV_nil, show (w1.alloc (.cells #[.slice none 0 0] 43)).heap.size = w1.heap.size + 1 by simp] at this
      exact this)
    have HM3 := Lib.hid (show OwnB ((w1.alloc (.cells (madeCells #[.bool false] P) 4)).alloc (.cells #[.slice none 0 0] 43)).drew w0.heap.size w1.heap.size P (covV P []) from by
      have := OwnB.made w1 P (by unfold maxLen; omega) (lo := w0.heap.size) HB1.out.bl.size
      rw [← covV_nil] at this
      exact this.alloc _)
    have hgu : gu < w1.heap.size := HB1.out.us.lt.2
    have hP0 : (0 : Int) ≤ (P : Int) := by omega
    have hc2 : ((w1.alloc (.cells #[.slice none 0 0] 43)).alloc (.cells (madeCells #[.bool false] P) 4)).cell? ⟨w1.heap.size, 0, none⟩ = some (.slice none 0 0) := ((below_boxed _ _).cell (p := ⟨w1.heap.size, 0, none⟩) (by simp)).trans (World.cell?_alloc_at _ _ _ _ rfl)
    have hc3 : ((w1.alloc (.cells (madeCells #[.bool false] P) 4)).alloc (.cells #[.slice none 0 0] 43)).cell? ⟨w1.heap.size + 1, 0, none⟩ = some (.slice none 0 0) := by
      exact World.cell?_alloc_at (w := w1.alloc (.cells (madeCells #[.bool false] P) 4)) #[.slice none 0 0] 43 (w1.heap.size + 1) 0 (by simp)
    have hz1 : w0.heap.size ≤ w1.heap.size := HB1.out.bl.size
    have hmk : ∀ W : World, (Instr.makeSlice 39 (.int .i64 (P : Int)) (.int .i64 (P : Int))).run Try.prog W = .ok (.slice (some ⟨W.heap.size, 0, none⟩) P P) (W.alloc (.cells (madeCells #[.bool false] P) 4)) := fun W => by
      obtain ⟨i, hi, hz, hz1, hz2⟩ := info_parts infoB
      have := run_makeSlice (P := Try.prog) (w := W) 39 4 i (.bool false) Try.underlying39 hi hz .i64 .i64 (P : Int) (P : Int) (by omega) (Int.le_refl _) (by rw [hz1]; omega) (by rw [hz2]; omega) (by omega)
      rw [hz1] at this
      simp only [Int.toNat_natCast, Nat.mul_one] at this
      exact this
    have hglt : g < w1.heap.size := rs_lt HB1.out.ob
    go_region_law (first
      | (refine stepM_append rfl _ _ rfl w0.heap.size K kc s Rk done none 0 0 [] w1.heap.size (by rfl) (by rfl) HSd.out rfl (by exact HK1.out) (OwnI.nil_ _ _) (by intro k hk g e e2; cases e2) (by exact World.cell?_alloc_at _ _ _ _ rfl) (by omega) (by exact HW1.out.bl.size) ?_; intro A7 c7 R7 w7 ho7 hg7 ha7; have hob7 := (HW1.out.grow hg7); have hcs7 := rs_cells hob7.1; have hf5 := obj_frozen hob7.1 5; have hf6 := obj_frozen hob7.1 6; have ht7 := rs_lt hob7.1)
      | (refine stepM_append rfl _ _ rfl w0.heap.size K kc s Rk done none 0 0 [] w1.heap.size (by rfl) (by rfl) HSd.out rfl (by exact HK2.out) (OwnI.nil_ _ _) (by intro k hk g e e2; cases e2) (by exact hc2) (by omega) (by exact HW2.out.bl.size) ?_; intro A7 c7 R7 w7 ho7 hg7 ha7; have hob7 := (HW2.out.grow hg7); have hcs7 := rs_cells hob7.1; have hf5 := obj_frozen hob7.1 5; have hf6 := obj_frozen hob7.1 6; have ht7 := rs_lt hob7.1)
      | (refine stepM_append rfl _ _ rfl w0.heap.size K kc s Rk done none 0 0 [] (w1.heap.size + 1) (by rfl) (by rfl) HSd.out rfl (by exact HK3.out) (OwnI.nil_ _ _) (by intro k hk g e e2; cases e2) (by exact hc3) (by omega) (by exact HW3.out.bl.size) ?_; intro A7 c7 R7 w7 ho7 hg7 ha7; have hob7 := (HW3.out.grow hg7); have hcs7 := rs_cells hob7.1; have hf5 := obj_frozen hob7.1 5; have hf6 := obj_frozen hob7.1 6; have ht7 := rs_lt hob7.1))
    all_goals
      go_wp2_with fail
      go_meet
      have hz7 := hg7.size
      simp only [World.size_drew, World.size_alloc] at hz7
      first
        | exact ⟨w7.heap.size, A7, c7, R7, by omega, by omega, Lib.hid (open_end2 hg hob7.1 hob7.2.1 hob7.2.2.1 hob7.2.2.2 ho7 hP32 (s + 1))⟩
        | exact ⟨w1.heap.size + 1, A7, c7, R7, by omega, by omega, Lib.hid (open_end hg hob7.1 hob7.2.1 hob7.2.2.1 hob7.2.2.2 ho7 (HM2.out.row HK2.out.own (by decide) hg7) (s + 1))⟩
        | exact ⟨w1.heap.size, A7, c7, R7, by omega, by omega, Lib.hid (open_end hg hob7.1 hob7.2.1 hob7.2.2.1 hob7.2.2.2 ho7 (HM3.out.row HK3.out.own (by decide) hg7) (s + 1))⟩
  case rest =>
    obtain ⟨gm, K', kc', R', hgm, hne, HT⟩ := hcut
    have HT0 := Lib.hid (show TkW w0 w wc g l false P A n c gu gm K' (done.length + 1) kc' R' (done ++ [[]]) (covV n (rsU done [])) [] from by rw [HSd.out]; exact HT.out)
    have HTk := Lib.hid (HTi.out wc gm K' kc' R' hne HT0.out.base)
    clear p0 p1 p2 p3 p4 p5 p6
    go_wp2_with fail
    refine (HTk.out).mono ?_
    rintro e w4 ⟨rfl, R4, h4⟩
    have HE4 := Lib.hid (HEx.out w4 gm K' kc' R4 hne h4.base)
    have HF4 := Lib.hid (HT0.out.fr.trans h4.fr)
    clear h4
    rcases hsr : srch xss P f done [(k : Int)] l with cs | l' | _
    · have HE5 := Lib.hid (show Calls Try.prog 42 #[.pointer (some ⟨g, 0, none⟩)] w4 (ExtPost w0 w4 g P A n c gu gm xss done [(k : Int)] (.yes cs)) from by rw [← hsr]; exact HE4.out)
      have HSr := Lib.hid hsr
      clear hsr
      go_wp2_with fail
      refine (HE5.out).mono ?_
      rintro e w5 ⟨rfl, hf5⟩
      have HF5 := Lib.hid hf5
      clear hf5
      go_wp2
      go_ret
      show BegPost _ _ _ _ _ _ _ _ _ _ _ _ _
      rw [HSr.out]
      exact ⟨rfl, (HF4.out.trans HF5.out.1).fresh hgm, HF5.out.2.1, HF5.out.2.2⟩
    · skip
      have HE5 := Lib.hid (show Calls Try.prog 42 #[.pointer (some ⟨g, 0, none⟩)] w4 (ExtPost w0 w4 g P A n c gu gm xss done [(k : Int)] (.no l')) from by rw [← hsr]; exact HE4.out)
      have HSr := Lib.hid hsr
      clear hsr
      go_wp2_with fail
      refine (HE5.out).mono ?_
      rintro e w5 ⟨rfl, K5, kc5, R5, h5⟩
      have HT5 := Lib.hid (HTo.out w5 l' false gm K5 kc5 R5 hne h5.base)
      have HF5 := Lib.hid (HF4.out.trans h5.fr)
      clear h5
      go_wp2_with fail
      refine (HT5.out).mono ?_
      rintro e w6 ⟨rfl, R6, h6⟩
      obtain ⟨G, eG, _, _, _, _⟩ := h6.ks.at_ (k := done.length) (by simp)
      subst eG
      have HF6 := Lib.hid ((HF5.out.trans h6.fr).fresh hgm)
      have HSh := Lib.hid (h6.base.shut (Ca := Ca) (cn := cn) (cc := cc) hg HF6.out done.length)
      obtain ⟨_, _, _, _, _, r5, _⟩ := rs_cells h6.ob
      have f5 := obj_frozen h6.ob 5
      have f6 := obj_frozen h6.ob 6
      have hcx : (w6.drew.setCell ⟨g, 5, none⟩ (.slice (some ⟨G, 0, none⟩) s kc5)).cell? ⟨g, 6, none⟩ = some (.slice (some ⟨gm, 0, none⟩) P P) := (rs_cells (rs_set5 (show w6.drew.heap[g]? = _ from h6.ob) (some ⟨G, 0, none⟩) s kc5)).2.2.2.2.2.2
      have hsk : s + 1 ≤ kc5 := by have := h6.ks.rd.le; simp at this; have := HSd.out; omega
      rw [HSd.out] at r5 HSh
      clear h6
      have hq2 : (0 : Int) ≤ (s : Int) := by omega
      have hq3 : (s : Int) ≤ (kc5 : Int) := by omega
      have hq4 : s ≤ kc5 := by omega
      have hq1 : IntKind.i64.wrap (s : Int) = (s : Int) := IntWalk.i64_in _ (by omega)
      go_wp2
      go_region
      all_goals
        go_wp2
        go_ret
        show BegPost _ _ _ _ _ _ _ _ _ _ _ _ _
        rw [HSr.out]
        exact ⟨rfl, _, kc5, R6, by rw [HSd.out]; exact HSh.out⟩
    · skip
      have HE5 := Lib.hid (show Calls Try.prog 42 #[.pointer (some ⟨g, 0, none⟩)] w4 (ExtPost w0 w4 g P A n c gu gm xss done [(k : Int)] (.full)) from by rw [← hsr]; exact HE4.out)
      have HSr := Lib.hid hsr
      clear hsr
      go_wp2_with fail
      refine (HE5.out).mono ?_
      rintro e w5 ⟨rfl, K5, kc5, R5, h5⟩
      have HT5 := Lib.hid (HTo.out w5 0 true gm K5 kc5 R5 hne h5.base)
      have HF5 := Lib.hid (HF4.out.trans h5.fr)
      clear h5
      go_wp2_with fail
      refine (HT5.out).mono ?_
      rintro e w6 ⟨rfl, R6, h6⟩
      obtain ⟨G, eG, _, _, _, _⟩ := h6.ks.at_ (k := done.length) (by simp)
      subst eG
      have HF6 := Lib.hid ((HF5.out.trans h6.fr).fresh hgm)
      have HSh := Lib.hid (h6.base.shut (Ca := Ca) (cn := cn) (cc := cc) hg HF6.out done.length)
      obtain ⟨_, _, _, _, _, r5, _⟩ := rs_cells h6.ob
      have f5 := obj_frozen h6.ob 5
      have f6 := obj_frozen h6.ob 6
      have hcx : (w6.drew.setCell ⟨g, 5, none⟩ (.slice (some ⟨G, 0, none⟩) s kc5)).cell? ⟨g, 6, none⟩ = some (.slice (some ⟨gm, 0, none⟩) P P) := (rs_cells (rs_set5 (show w6.drew.heap[g]? = _ from h6.ob) (some ⟨G, 0, none⟩) s kc5)).2.2.2.2.2.2
      have hsk : s + 1 ≤ kc5 := by have := h6.ks.rd.le; simp at this; have := HSd.out; omega
      rw [HSd.out] at r5 HSh
      clear h6
      have hq2 : (0 : Int) ≤ (s : Int) := by omega
      have hq3 : (s : Int) ≤ (kc5 : Int) := by omega
      have hq4 : s ≤ kc5 := by omega
      have hq1 : IntKind.i64.wrap (s : Int) = (s : Int) := IntWalk.i64_in _ (by omega)
      go_wp2
      go_region
      all_goals
        go_wp2
        go_ret
        show BegPost _ _ _ _ _ _ _ _ _ _ _ _ _
        rw [HSr.out]
        exact ⟨rfl, _, kc5, R6, by rw [HSd.out]; exact HSh.out⟩
end Go.Proofs.Ythgbfgdnljgicab
