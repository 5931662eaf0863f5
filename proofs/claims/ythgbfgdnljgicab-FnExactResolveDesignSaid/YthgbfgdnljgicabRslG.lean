/-
  The program's search for a resolution: extend, one step; the search whole. Conditions: those of each theorem.
-/
import Derived.Test.YthgbfgdnljgicabRslE
namespace Go.Proofs.Ythgbfgdnljgicab
open Go.RowKit
set_option linter.unusedVariables false
set_option linter.unusedSimpArgs false

section
variable {w0 wo wr w2 : World} {g left P n c gu gc s kc : Nat} {sp : Bool} {A K : Option Addr} {Rk : Spine} {X : List (List Int)} {U : List Bool} {cv : Value} {L : List Int}
theorem TkW.left0 (h : TkW w0 wo wr g left sp P A n c gu gc K s kc Rk X U L) (hg : w0.heap.size ≤ g) (l : Nat) : TkW w0 wo (wr.setCell ⟨g, 0, none⟩ (.int .i64 (l : Int))) g l sp P A n c gu gc K s kc Rk X U L :=
  ⟨rs_set0 h.ob l, h.us.setCell_other (p := ⟨g, 0, none⟩) (fun e => rs_flag_ne h.ob h.us e.symm) _, h.cv.setCell_other (p := ⟨g, 0, none⟩) (fun e => rs_flag_ne h.ob h.cv e.symm) _, rs_set_ks h.ob h.ks, h.bl.setCell (p := ⟨g, 0, none⟩) hg _, h.fr.trans (Fr.set h.ob (by decide) hg 0 _)⟩
theorem TkW.spent (h : TkW w0 wo wr g left sp P A n c gu gc K s kc Rk X U L) (hg : w0.heap.size ≤ g) (b : Bool) : TkW w0 wo (wr.setCell ⟨g, 1, none⟩ (.bool b)) g left b P A n c gu gc K s kc Rk X U L :=
  ⟨rs_set1 h.ob b, h.us.setCell_other (p := ⟨g, 1, none⟩) (fun e => rs_flag_ne h.ob h.us e.symm) _, h.cv.setCell_other (p := ⟨g, 1, none⟩) (fun e => rs_flag_ne h.ob h.cv e.symm) _, rs_set_ks h.ob h.ks, h.bl.setCell (p := ⟨g, 1, none⟩) hg _, h.fr.trans (Fr.set h.ob (by decide) hg 1 _)⟩
theorem TkW.step (h : TkW w0 wo wr g left sp P A n c gu gc K s kc Rk X U L) (hb : Below wr.heap.size wr w2) : TkW w0 wo w2 g left sp P A n c gu gc K s kc Rk X U L :=
  ⟨(hb.block g (rs_lt h.ob)).trans h.ob, h.us.below hb, h.cv.below hb, h.ks.below hb, h.bl.trans (hb.mono h.bl.size), h.fr.trans (Fr.of_below hb h.bl.size)⟩
theorem beg_ret {done : List (List Int)} {r : Fnd} {e : Ending} (h : BegPost w0 wo g P A n c gu done cv r e wr) : ∃ b, e = .returned (.bool b) := by
  rcases r with cs | l | _
  · exact ⟨true, h.1⟩
  · exact ⟨false, h.1⟩
  · exact ⟨false, h.1⟩
theorem beg_ext {xss done : List (List Int)} {cls : List Int} {r : Fnd} {e : Ending} (h : TkW w0 wo wo g left sp P A n c gu gc K s kc Rk X U (ptC xss cls)) (hne : gc ≠ gu) (hp : BegPost w0 wo g P A n c gu (done ++ [cls]) (.slice (some ⟨gc, 0, none⟩) P P) r e wr) : ExtPost w0 wo g P A n c gu gc xss done cls r e wr := by
  rcases r with cs | l | _
  · exact ⟨hp.1, hp.2.1.weak _, hp.2.2.1, hp.2.2.2⟩
  · obtain ⟨e1, K', kc', R', hb⟩ := hp
    have hob := hb.ob
    have hus := hb.us
    rw [List.length_append] at hob
    rw [rsU_close] at hus
    exact ⟨e1, K', kc', R', hob, hus, h.cv.fr hb.fr hne (by simp), hb.ks, hb.bl, hb.fr.weak _⟩
  · obtain ⟨e1, K', kc', R', hb⟩ := hp
    have hob := hb.ob
    have hus := hb.us
    rw [List.length_append] at hob
    rw [rsU_close] at hus
    exact ⟨e1, K', kc', R', hob, hus, h.cv.fr hb.fr hne (by simp), hb.ks, hb.bl, hb.fr.weak _⟩
theorem TkW.bg {done : List (List Int)} {cls : List Int} (h : TkW w0 wr wr g left sp P A n c gu gc K (done.length + 1) kc Rk (done ++ [cls]) (covV n (rsU done cls)) L) : BgW w0 wr wr g left sp P A n c gu K (done ++ [cls]).length kc Rk (done ++ [cls]) (covV n (rsU (done ++ [cls]) [])) (.slice (some ⟨gc, 0, none⟩) P P) :=
  ⟨by rw [List.length_append]; exact h.ob, by rw [rsU_close]; exact h.us, h.ks, h.bl, Fr.refl _ _ _ _⟩
end

def ScRel (r : Fnd) (G : Nat → Nat → Fnd) (fit : Nat → Bool) (n j l : Nat) (sp : Bool) : Prop := (sp = false → r = scanF G fit (n - j) j l) ∧ (sp = true → l = 0 ∧ r = .full)
theorem ScRel.miss {r : Fnd} {G : Nat → Nat → Fnd} {fit : Nat → Bool} {n j l : Nat} {sp : Bool} (h : ScRel r G fit n j l sp) (hj : j < n) (hf : fit j = false) : ScRel r G fit n (j + 1) l sp := by
  refine ⟨fun e => ?_, h.2⟩
  rw [h.1 e, show n - j = (n - (j + 1)) + 1 by omega, scanF_miss hf]
theorem ScRel.zero {r : Fnd} {G : Nat → Nat → Fnd} {fit : Nat → Bool} {n j : Nat} (h : ScRel r G fit n j 0 false) (hj : j < n) (hf : fit j = true) : r = .full := by
  rw [h.1 rfl, show n - j = (n - (j + 1)) + 1 by omega, scanF_zero hf]
theorem ScRel.yes_ {r : Fnd} {G : Nat → Nat → Fnd} {fit : Nat → Bool} {n j l : Nat} {cs : List (List Int)} (h : ScRel r G fit n j (l + 1) false) (hj : j < n) (hf : fit j = true) (hg : G j l = .yes cs) : r = .yes cs := by
  rw [h.1 rfl, show n - j = (n - (j + 1)) + 1 by omega, scanF_yes_ hf hg]
theorem ScRel.no_ {r : Fnd} {G : Nat → Nat → Fnd} {fit : Nat → Bool} {n j l l' : Nat} (h : ScRel r G fit n j (l + 1) false) (hj : j < n) (hf : fit j = true) (hg : G j l = .no l') : ScRel r G fit n (j + 1) l' false := by
  refine ⟨fun _ => ?_, fun e => by cases e⟩
  rw [h.1 rfl, show n - j = (n - (j + 1)) + 1 by omega, scanF_no_ hf hg]
theorem ScRel.full_ {r : Fnd} {G : Nat → Nat → Fnd} {fit : Nat → Bool} {n j l : Nat} (h : ScRel r G fit n j (l + 1) false) (hj : j < n) (hf : fit j = true) (hg : G j l = .full) : ScRel r G fit n (j + 1) 0 true := by
  refine ⟨(fun e => by cases e), fun _ => ⟨rfl, ?_⟩⟩
  rw [h.1 rfl, show n - j = (n - (j + 1)) + 1 by omega, scanF_full_ hf hg]
theorem ScRel.end_ {r : Fnd} {G : Nat → Nat → Fnd} {fit : Nat → Bool} {n l : Nat} (h : ScRel r G fit n n l false) : r = .no l := by
  rw [h.1 rfl, Nat.sub_self]; rfl

set_option maxRecDepth 100000 in
set_option maxHeartbeats 16000000 in
theorem ext_step (w0 : World) {g P : Nat} {A : Option Addr} {n c gu : Nat} {R : Spine} {xss : List (List Int)} (hg : w0.heap.size ≤ g) (hr : RdM w0 A c R xss) (hn : xss.length = n) (hD : DsgOk (P : Int) xss) {f : Nat} (hBg : BegAt w0 g P A n c gu xss f) (hE : ExtAt w0 g P A n c gu xss f) : ExtAt w0 g P A n c gu xss (f + 1) := by
  intro w done cls left gc K kc Rk hok hm hc hl hne h
  have hn128 : n ≤ 128 := by have := hD.2.1; omega
  have hP32 : P ≤ 32 := by have := hD.1.2; omega
  have hlen := hok.len
  have hdl : done.length ≤ n := by
    have h1 := flat_ge hok.ne
    unfold rsU at hlen
    rw [List.length_append] at hlen
    omega
  have hcl : cls.length ≤ n := by
    unfold rsU at hlen
    rw [List.length_append] at hlen
    omega
  have hI : Calls Try.prog 39 #[.slice (some ⟨gc, 0, none⟩) P P, .bool false] w fun e w' => e = .returned (.int .i64 (gapI P (ptC xss cls))) ∧ w = w' :=
    indexB_c w (some ⟨gc, 0, none⟩) P P (covV P (ptC xss cls)) false h.cv.rd (by omega)
  obtain ⟨q0, q1, q2, q3, q4, q5, q6⟩ := rs_cells h.ob
  rcases gapI_or P (ptC xss cls) with hv | ⟨p, hp, hv, hu⟩
  · have hR := Lib.hid (srch_e1 (P := P) (f := f) (left := left) (done := done) hc (show gapI P (ptC xss cls) < 0 by omega))
    rw [hR.out]
    rw [hv] at hI
    have HI := Lib.hid hI
    obtain ⟨hok1, hm1⟩ := hok.close hc
    have HBg := Lib.hid (hBg w (done ++ [cls]) left K kc Rk (some ⟨gc, 0, none⟩) P P hok1 (by omega) hl h.bg)
    have H := Lib.hid h
    have HNe := Lib.hid hne
    clear hI h hv hE hBg hok hok1 hm hm1 hD hr hne hc hlen
    go_enter Try.func42, Try.ntmps42
    go_wp2_with fail
    refine (HI.out).mono ?_
    rintro e w2 ⟨rfl, rfl⟩
    go_wp2_with fail
    refine (HBg.out).mono ?_
    intro e w3 hp
    obtain ⟨b, rfl⟩ := beg_ret hp
    have HP := Lib.hid hp
    clear hp
    go_wp2
    go_ret
    exact beg_ext H.out HNe.out HP.out
  rw [hv] at hI
  have hnn : ¬ gapI P (ptC xss cls) < 0 := by omega
  obtain ⟨r, hr_⟩ : ∃ r, r = srch xss P (f + 1) done cls left := ⟨_, rfl⟩
  rw [← hr_]
  obtain ⟨G, hG⟩ : ∃ G, G = fun (k : Nat) (l : Nat) => srch xss P f done (cls ++ [(k : Int)]) l := ⟨_, rfl⟩
  have HGe := Lib.hid (show ∀ (k l : Nat), G k l = srch xss P f done (cls ++ [(k : Int)]) l from fun k l => by rw [hG])
  have hsc : ScRel r G (fitK xss done cls (p : Int)) n 0 left false := ⟨(fun _ => by rw [hr_, srch_e2 hc hnn, hv, hn, hG]; rfl), (fun e => by cases e)⟩
  have HI := Lib.hid hI
  have H0 := Lib.hid h
  have HFit := Lib.hid (fun (W : World) (l : Nat) (sp : Bool) (K' : Option Addr) (kc' : Nat) (R' : Spine) (h : TkW w0 w W g l sp P A n c gu gc K' (done.length + 1) kc' R' (done ++ [cls]) (covV n (rsU done cls)) (ptC xss cls)) (j : Nat) (hj : j < n) =>
    (show Calls Try.prog 51 #[.pointer (some ⟨g, 0, none⟩), .int .i64 (j : Int), .int .i64 (p : Int)] W (PostV W (.bool (fitK xss done cls (p : Int) j))) from fits_c W h.ob h.us h.cv R xss (hr.below h.bl) hn hD j hj (p : Int)))
  have HEx := Lib.hid (fun (W : World) (j l : Nat) (hj : j < n) (hf : fitK xss done cls (p : Int) j = true) (hl : l ≤ 20000) (K' : Option Addr) (kc' : Nat) (R' : Spine) (h : TkW w0 W W g l false P A n c gu gc K' (done.length + 1) kc' R' (done ++ [cls ++ [(j : Int)]]) (covV n (rsU done cls ++ [(j : Int)])) (ptC xss cls ++ row xss j)) =>
    hE W done (cls ++ [(j : Int)]) l gc K' kc' R' (hok.more (dsg_rowsNodup hD) hc (by omega) hf).1 (by have := (hok.more (dsg_rowsNodup hD) hc (show j < xss.length by omega) hf).2; omega) (by simp) hl hne (by rw [rsU_snoc, ptC_snoc]; exact h))
  have HTi := Lib.hid (fun (W : World) (j l : Nat) (hj : j < n) (K' : Option Addr) (kc' : Nat) (R' : Spine) (h : TkW w0 W W g l false P A n c gu gc K' (done.length + 1) kc' R' (done ++ [cls]) (covV n (rsU done cls)) (ptC xss cls)) =>
    takeIn_c w0 W (k := j) (Y := done) (ys := cls) (T := done.length) (U := rsU done cls) (L := ptC xss cls) hg h.ob h.us h.cv hne h.ks rfl R xss hr hn hD h.bl hj (by omega) (by omega))
  have HTo := Lib.hid (fun (W : World) (j l' : Nat) (sp' : Bool) (hj : j < n) (hf : fitK xss done cls (p : Int) j = true) (K' : Option Addr) (kc' : Nat) (R' : Spine) (h : TkW w0 W W g l' sp' P A n c gu gc K' (done.length + 1) kc' R' (done ++ [cls ++ [(j : Int)]]) (covV n (rsU done (cls ++ [(j : Int)]))) (ptC xss (cls ++ [(j : Int)]))) =>
    takeOut_c w0 W (k := j) (Y := done) (ys := cls) (T := done.length) (U := rsU done cls) (L := ptC xss cls) h.ob (by rw [← rsU_snoc]; exact h.us) R xss (by rw [← ptC_snoc]; exact h.cv) hne h.ks rfl hr hn hD h.bl hj (by omega) (by omega) (fitK_true.1 hf).1 (by
      have := (hok.more (dsg_rowsNodup hD) hc (show j < xss.length by omega) hf).1.dis
      rwa [ptC_snoc] at this))
  have HSc := Lib.hid hsc
  clear hI h hv hE hBg hok hm hD hr hc hlen hnn hr_ hsc hu hne hdl hcl hG
  have hp0 : (0 : Int) ≤ (p : Int) := by omega
  go_enter Try.func42, Try.ntmps42
  go_wp2_with fail
  refine (HI.out).mono ?_
  rintro e w2 ⟨rfl, rfl⟩
  go_wp2
  go_loopw [20] (fun v wr => ∃ (j l : Nat) (sp : Bool) (K' : Option Addr) (kc' : Nat) (R' : Spine), j ≤ n ∧ v = .int .i64 j ∧ l ≤ 20000 ∧ Hid (ScRel r G (fitK xss done cls (p : Int)) n j l sp) ∧ Hid (TkW w0 w wr g l sp P A n c gu gc K' (done.length + 1) kc' R' (done ++ [cls]) (covV n (rsU done cls)) (ptC xss cls))) (fun v _ => n - (intOf v).toNat)
  case atStart => exact ⟨0, left, false, K, kc, Rk, Nat.zero_le _, rfl, hl, HSc, H0⟩
  case round =>
    obtain ⟨j, l, sp, K', kc', R', hj, rfl, hl, HS, HT⟩ := hrel
    by_cases hjn : j < n
    · have hft := HFit.out wr l sp K' kc' R' HT.out j hjn
      have hj0 : (0 : Int) ≤ (j : Int) := by omega
      rcases hf : fitK xss done cls (p : Int) j with _ | _
      · rw [hf] at hft
        have HFt := Lib.hid hft
        have HSn := Lib.hid (HS.out.miss hjn hf)
        clear hft hf
        go_wp2_with fail
        refine (HFt.out).mono ?_
        rintro e w3 ⟨rfl, hb3⟩
        have HT3 := Lib.hid (HT.out.step hb3)
        clear hb3
        go_wp2
        go_roundw
        case rel => exact ⟨j + 1, l, sp, K', kc', R', by omega, by go_num, hl, HSn, HT3⟩
        case measure => simp [intOf]; omega
      · rw [hf] at hft
        have HFt := Lib.hid hft
        have Hf := Lib.hid hf
        clear hft hf
        go_wp2_with fail
        refine (HFt.out).mono ?_
        rintro e w3 ⟨rfl, hb3⟩
        have HT3 := Lib.hid (HT.out.step hb3)
        clear hb3
        obtain ⟨p0, p1, _, _, _, _, _⟩ := rs_cells HT3.out.ob
        rcases sp with _ | _
        · rcases l with _ | l
          · have HNd := Lib.hid (node0_c w3 HT3.out.ob)
            have HSp := Lib.hid (HT3.out.spent hg true)
            have HRe := Lib.hid (HS.out.zero hjn Hf.out)
            go_wp2_with fail
            refine (HNd.out).mono ?_
            rintro e w4 ⟨rfl, rfl⟩
            clear p0 p1
            go_wp2
            go_ret
            rw [HRe.out]
            exact ⟨rfl, K', kc', R', HSp.out⟩
          · have HNd := Lib.hid (node1_c w3 (by omega) HT3.out.ob)
            have HL4 := Lib.hid (HT3.out.left0 hg l)
            go_wp2_with fail
            refine (HNd.out).mono ?_
            rintro e w4 ⟨rfl, hw4⟩
            rw [← hw4] at HL4
            have HTk := Lib.hid (HTi.out w4 j l hjn K' kc' R' HL4.out.base)
            clear p0 p1 hw4
            go_wp2_with fail
            refine (HTk.out).mono ?_
            rintro e w5 ⟨rfl, R5, h5⟩
            have HE5 := Lib.hid (HEx.out w5 j l hjn Hf.out (by omega) K' kc' R5 h5.base)
            have HF5 := Lib.hid (HL4.out.fr.trans h5.fr)
            clear h5
            rcases hsr : srch xss P f done (cls ++ [(j : Int)]) l with cs | l' | _
            · have HX5 := Lib.hid (show Calls Try.prog 42 #[.pointer (some ⟨g, 0, none⟩)] w5 (ExtPost w0 w5 g P A n c gu gc xss done (cls ++ [(j : Int)]) (.yes cs)) from by rw [← hsr]; exact HE5.out)
              have HRe := Lib.hid (HS.out.yes_ hjn Hf.out (by rw [HGe.out]; exact hsr))
              clear hsr
              go_wp2_with fail
              refine (HX5.out).mono ?_
              rintro e w6 ⟨rfl, hf6⟩
              have HF6 := Lib.hid hf6
              clear hf6
              go_wp2
              go_ret
              rw [HRe.out]
              exact ⟨rfl, HF5.out.trans HF6.out.1, HF6.out.2.1, HF6.out.2.2⟩
            · have HSn := Lib.hid (HS.out.no_ hjn Hf.out (by rw [HGe.out]; exact hsr))
              have hll : l' ≤ 20000 := by have := srch_le f _ _ _ _ hsr; omega
              have HX5 := Lib.hid (show Calls Try.prog 42 #[.pointer (some ⟨g, 0, none⟩)] w5 (ExtPost w0 w5 g P A n c gu gc xss done (cls ++ [(j : Int)]) (.no l')) from by rw [← hsr]; exact HE5.out)
              clear hsr
              go_wp2_with fail
              refine (HX5.out).mono ?_
              rintro e w6 ⟨rfl, K6, kc6, R6, h6⟩
              have HT6 := Lib.hid (HTo.out w6 j l' false hjn Hf.out K6 kc6 R6 h6.base)
              have HF6 := Lib.hid (HF5.out.trans h6.fr)
              clear h6
              go_wp2_with fail
              refine (HT6.out).mono ?_
              rintro e w7 ⟨rfl, R7, h7⟩
              have HT7 := Lib.hid (h7.rebase HF6.out)
              clear h7
              go_wp2
              go_roundw
              case rel => exact ⟨j + 1, l', false, K6, kc6, R7, by omega, by go_num, hll, HSn, HT7⟩
              case measure => simp [intOf]; omega
            · have HSn := Lib.hid (HS.out.full_ hjn Hf.out (by rw [HGe.out]; exact hsr))
              have hll : 0 ≤ 20000 := by omega
              have HX5 := Lib.hid (show Calls Try.prog 42 #[.pointer (some ⟨g, 0, none⟩)] w5 (ExtPost w0 w5 g P A n c gu gc xss done (cls ++ [(j : Int)]) (.full)) from by rw [← hsr]; exact HE5.out)
              clear hsr
              go_wp2_with fail
              refine (HX5.out).mono ?_
              rintro e w6 ⟨rfl, K6, kc6, R6, h6⟩
              have HT6 := Lib.hid (HTo.out w6 j 0 true hjn Hf.out K6 kc6 R6 h6.base)
              have HF6 := Lib.hid (HF5.out.trans h6.fr)
              clear h6
              go_wp2_with fail
              refine (HT6.out).mono ?_
              rintro e w7 ⟨rfl, R7, h7⟩
              have HT7 := Lib.hid (h7.rebase HF6.out)
              clear h7
              go_wp2
              go_roundw
              case rel => exact ⟨j + 1, 0, true, K6, kc6, R7, by omega, by go_num, hll, HSn, HT7⟩
              case measure => simp [intOf]; omega
        · obtain ⟨rfl, hre⟩ := HS.out.2 rfl
          have HRe := Lib.hid hre
          clear hre
          go_wp2
          go_ret
          rw [HRe.out]
          exact ⟨rfl, K', kc', R', HT3.out⟩
    · obtain rfl : j = n := by omega
      rcases sp with _ | _
      · have HRe := Lib.hid HS.out.end_
        go_wp2
        go_ret
        rw [HRe.out]
        exact ⟨rfl, K', kc', R', HT.out⟩
      · obtain ⟨rfl, hre⟩ := HS.out.2 rfl
        have HRe := Lib.hid hre
        clear hre
        go_wp2
        go_ret
        rw [HRe.out]
        exact ⟨rfl, K', kc', R', HT.out⟩
end Go.Proofs.Ythgbfgdnljgicab
