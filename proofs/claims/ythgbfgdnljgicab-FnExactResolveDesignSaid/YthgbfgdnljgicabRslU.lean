/-
  The reference's search for a resolution: run, one step: a class is closed. Conditions: those of each theorem.
-/
import Derived.Test.YthgbfgdnljgicabRslS
import Derived.Test.YthgbfgdnljgicabRslE
namespace Go.Proofs.Ythgbfgdnljgicab
open Go.RowKit
set_option linter.unusedVariables false
set_option linter.unusedSimpArgs false

theorem FdW.put {w0 wo wr w7 : World} {g P n c gu s kc nodes bud t c7 : Nat} {fl : Bool} {A K A7 : Option Addr} {Rk R7 : Spine} {X X7 : List (List Int)} {U : List Bool} (h : FdW w0 wo wr g P A n c gu K s kc nodes bud fl Rk X U) (hg : w0.heap.size ≤ g) (hg7 : wr.grownBy w7 (blk K)) (ho7 : OwnM w7 w0.heap.size A7 c7 R7 X7) :
    FdW w0 wo (w7.setCell ⟨g, 3, none⟩ (.slice A7 t c7)) g P A n c gu A7 t c7 nodes bud fl R7 X7 U := by
  have h7 : w7.heap[g]? = some (fdObj P A n c gu K s kc nodes bud fl) := obj_row h.ob h.ks.own (by decide) hg7
  have hu7 := OwnB.row h.us h.ks.own (by decide) hg7
  exact ⟨fd_set3 h7 A7 t c7, hu7.setCell_other (p := ⟨g, 3, none⟩) (obj_flag_ne h7 (by decide) hu7) _, obj_set_ks h7 (by decide) (by decide) ho7 3 _, (h.bl.trans (Below.of_grown hg7 h.bl.size (fun g' e => (own_typed h.ks.own e).1))).setCell (p := ⟨g, 3, none⟩) hg _,
    (h.fr.trans (FrS.row h.ks.own (by decide) h.bl.size hg7)).trans (FrS.block (grownBy_setCell w7 ⟨g, 3, none⟩ _) h7 (by decide) hg)⟩
theorem FdW.obj7 {w0 wo wr w7 : World} {g P n c gu s kc nodes bud : Nat} {fl : Bool} {A K : Option Addr} {Rk : Spine} {X : List (List Int)} {U : List Bool} (h : FdW w0 wo wr g P A n c gu K s kc nodes bud fl Rk X U) (hg7 : wr.grownBy w7 (blk K)) : w7.heap[g]? = some (fdObj P A n c gu K s kc nodes bud fl) := obj_row h.ob h.ks.own (by decide) hg7
theorem FdW.pop {w0 wo wr : World} {g P n c gu s kc nodes bud t G : Nat} {fl : Bool} {A : Option Addr} {Rk : Spine} {X : List (List Int)} {y : List Int} {U : List Bool} (h : FdW w0 wo wr g P A n c gu (some ⟨G, 0, none⟩) s kc nodes bud fl Rk (X ++ [y]) U) (hg : w0.heap.size ≤ g) :
    FdW w0 wo (wr.drew.setCell ⟨g, 3, none⟩ (.slice (some ⟨G, 0, none⟩) t kc)) g P A n c gu (some ⟨G, 0, none⟩) t kc nodes bud fl Rk X U := (h.drewN 1).set hg (fd_set3 (h.drewN 1).ob _ _ _) (h.drewN 1).ks.front

set_option maxRecDepth 100000 in
set_option maxHeartbeats 8000000 in
theorem run_close (w0 : World) {g P : Nat} {A : Option Addr} {n c gu bud : Nat} {R : Spine} {xss : List (List Int)} {f : Nat} (hR : RunAt w0 g P A n c gu bud xss f) (hg : w0.heap.size ≤ g) (hr : RdM w0 A c R xss) (hn : xss.length = n) (hn128 : n ≤ 128) (hP : P ≤ 32) (hb2 : bud ≤ 20000)
    (w : World) {done : List (List Int)} {cls : List Int} {left nodes : Nat} {K : Option Addr} {kc : Nat} {Rk : Spine} {A5 : Option Addr} {c5 : Nat} (hok : RsOk xss done cls) (hm : rsM xss done cls < f + 1) (hcs : cls ≠ []) (hl : nodes + left = bud) (hgap : gapI P (ptC xss cls) < 0)
    (h : FdW w0 w w g P A n c gu K done.length kc nodes bud false Rk (done.map sortL) (covV n (rsU done cls))) (hc : OwnI w w0.heap.size A5 c5 (sortL cls)) :
    Calls Try.prog 16 #[.pointer (some ⟨g, 0, none⟩), .slice A5 cls.length c5] w (RunPost w0 w g P A n c gu bud done cls (srch xss P (f + 1) done cls left)) := by
  rw [srch_e1 hcs hgap]
  obtain ⟨hok1, hm1⟩ := hok.close hcs
  obtain ⟨m, hmm⟩ : ∃ m, m = cls.length := ⟨_, rfl⟩
  have hm0 : 0 < m := by
    rcases cls with _ | _
    · exact absurd rfl hcs
    · rw [hmm]; simp
  have hlen := hok.len
  have hm128 : m ≤ 128 := by
    unfold rsU at hlen
    rw [List.length_append] at hlen
    omega
  have hs128 : done.length ≤ 128 := by
    have h1 := flat_ge hok.ne
    unfold rsU at hlen
    rw [List.length_append] at hlen
    omega
  have hsl : (sortL cls).length = m := by rw [sortL_len, hmm]
  have hv : gapI P (ptC xss (sortL cls)) = -1 := by
    rw [ptC_sort]
    rcases gapI_or P (ptC xss cls) with h | ⟨k, _, h, _⟩
    · exact h
    · omega
  have hGp := gap_c w h.ob R xss (hr.below h.bl) hn A5 m c5 (sortL cls) hc.rd hsl (fun k hk => by
    have := hok.lt k (List.mem_append.2 (.inr (sortL_mem.1 hk)))
    omega) hP hn128 (by omega)
  rw [hv] at hGp
  have HGp := Lib.hid hGp
  have H := Lib.hid h
  have HC := Lib.hid hc
  have HSl := Lib.hid hsl
  have HNil := Lib.hid (show A5 = none → c5 = 0 from fun e => by
    rcases hc.form with ⟨_, h2, _⟩ | ⟨g', e2, _⟩
    · exact h2
    · rw [e] at e2; cases e2)
  have HMp := Lib.hid (show (done ++ [cls]).map sortL = done.map sortL ++ [sortL cls] from by simp)
  have HUc := Lib.hid (rsU_close done cls)
  have HRu := Lib.hid (fun (W : World) (K' : Option Addr) (kc' : Nat) (R' : Spine) (A7 : Option Addr) (c7 : Nat) (hF : FdW w0 W W g P A n c gu K' (done ++ [cls]).length kc' nodes bud false R' ((done ++ [cls]).map sortL) (covV n (rsU (done ++ [cls]) []))) (hI : OwnI W w0.heap.size A7 c7 (sortL [])) => hR W (done ++ [cls]) [] left nodes K' kc' R' A7 c7 hok1 (by omega) hl hF hI)
  obtain ⟨s, hs⟩ : ∃ s, s = done.length := ⟨_, rfl⟩
  have HSd := Lib.hid hs.symm
  rw [← hmm]
  rw [← hs] at hs128
  clear h hc hR hok hok1 hm hm1 hl hlen hsl hv hGp hgap hcs hmm hr hs
  go_enter Try.func16, Try.ntmps16
  go_wp2_with fail
  refine (HGp.out).mono ?_
  rintro e w1 ⟨rfl, q, rfl⟩
  have H1 := Lib.hid (H.out.drewN q)
  have HC1 := Lib.hid (HC.out.drewN q)
  generalize w.drewN q = w1 at *
  have hz1 : w0.heap.size ≤ w1.heap.size := H1.out.bl.size
  go_wp2
  go_cut [18] (fun s18 wx => ∃ (K' : Option Addr) (kc' : Nat) (R' : Spine), Hid (FdW w0 w wx g P A n c gu K' (s + 1) kc' nodes bud false R' (done.map sortL ++ [sortL cls]) (covV n (rsU done cls))))
  case first =>
    obtain ⟨_, _, _, q3, _, _, _⟩ := fd_cells H1.out.ob
    have f3 := obj_frozen H1.out.ob 3
    have hglt := fd_lt H1.out.ob
    rw [HSd.out] at q3
    have HOw := Lib.hid (l00Own_c w1.drew A5 m c5 (sortL cls) (HC1.out.rd.drewN 1) HSl.out HNil.out (by omega))
    have HF1 := Lib.hid (H1.out.drewN 1)
    go_region_law (first
      | (refine stepM_append rfl _ _ rfl w0.heap.size K kc s Rk (done.map sortL) Ay ny cy (sortL cls) wy.heap.size (by rfl) (by rfl) (by rw [List.length_map]; exact HSd.out) hny (by exact hOa) (by exact hIa) (by exact hAp) (by exact World.cell?_alloc_at _ _ _ _ rfl) (by omega) (by exact hza) ?_; intro A7 c7 R7 w7 ho7 hg7 ha7; have hob7 := hFa.obj7 hg7; have hc37 := (fd_cells hob7).2.2.2.1; have hf37 := obj_frozen hob7 3; have HPt := Lib.hid (hFa.put (t := s + 1) hg hg7 ho7))
      | (go_simp; go_at_call 30; refine (HOw.out).mono ?_; rintro e wy ⟨⟨Ay, ny, cy, rfl, hny, hoy⟩, hby⟩; have hFy := HF1.out.step hby; have hc3y := (fd_cells hFy.ob).2.2.2.1; have hgy := fd_lt hFy.ob; have hFa := hFy.alloc (.cells #[.slice Ay ny cy] 43); have hOa := hFa.ks; have hza := hFa.bl.size; have hIa := (hoy.lower (lo' := w0.heap.size) HF1.out.bl.size).alloc (.cells #[.slice Ay ny cy] 43); have hAp := later_apart HF1.out.ks hoy; rw [HSd.out] at hc3y))
    all_goals
      go_wp2_with fail
      go_meet
      exact ⟨A7, c7, R7, HPt⟩
  case rest =>
    obtain ⟨K', kc', R', HF⟩ := hcut
    have HF0 := Lib.hid (show FdW w0 w wc g P A n c gu K' (done ++ [cls]).length kc' nodes bud false R' ((done ++ [cls]).map sortL) (covV n (rsU (done ++ [cls]) [])) from by
      rw [List.length_append, HSd.out, HMp.out, HUc.out]; exact HF.out)
    have HFr := Lib.hid HF0.out.fr
    have HRn := Lib.hid (show Calls Try.prog 16 #[.pointer (some ⟨g, 0, none⟩), .slice (some ⟨wc.heap.size, 0, none⟩) 0 0] (wc.alloc (.cells #[] 2)) (RunPost w0 (wc.alloc (.cells #[] 2)) g P A n c gu bud (done ++ [cls]) [] (srch xss P f (done ++ [cls]) [] left)) from
      HRu.out (wc.alloc (.cells #[] 2)) K' kc' R' (some ⟨wc.heap.size, 0, none⟩) 0 (HF0.out.alloc _).base (by rw [show sortL [] = ([] : List Int) from by simp [sortL]]; exact OwnI.lit0 wc HF0.out.bl.size))
    have HFa := Lib.hid (HF0.out.alloc (.cells #[] 2)).fr
    rcases hsr : srch xss P f (done ++ [cls]) [] left with cs | l' | _
    · have HR2 := Lib.hid (show Calls Try.prog 16 #[.pointer (some ⟨g, 0, none⟩), .slice (some ⟨wc.heap.size, 0, none⟩) 0 0] (wc.alloc (.cells #[] 2)) (RunPost w0 (wc.alloc (.cells #[] 2)) g P A n c gu bud (done ++ [cls]) [] (.yes cs)) from by rw [← hsr]; exact HRn.out)
      have HSr := Lib.hid hsr
      clear hsr
      go_wp2_with fail
      refine (HR2.out).mono ?_
      rintro e w4 ⟨rfl, hf4⟩
      have HF4 := Lib.hid hf4
      clear hf4
      go_wp2
      go_ret
      show RunPost _ _ _ _ _ _ _ _ _ _ _ _ _ _
      rw [HSr.out]
      exact ⟨rfl, HFa.out.trans HF4.out.1, HF4.out.2.1, HF4.out.2.2⟩
    · skip
      have HR2 := Lib.hid (show Calls Try.prog 16 #[.pointer (some ⟨g, 0, none⟩), .slice (some ⟨wc.heap.size, 0, none⟩) 0 0] (wc.alloc (.cells #[] 2)) (RunPost w0 (wc.alloc (.cells #[] 2)) g P A n c gu bud (done ++ [cls]) [] (.no l')) from by rw [← hsr]; exact HRn.out)
      have HSr := Lib.hid hsr
      clear hsr
      go_wp2_with fail
      refine (HR2.out).mono ?_
      rintro e w4 ⟨rfl, nd, K4, kc4, R4, h4⟩
      obtain ⟨hnl, h4⟩ := h4
      rw [List.length_append, HSd.out, HMp.out, HUc.out] at h4
      obtain ⟨G, eG, _, _, _, _⟩ := h4.ks.at_ (k := done.length) (by simp)
      subst eG
      obtain ⟨_, _, _, q3, _, _, _⟩ := fd_cells h4.ob
      have f3 := obj_frozen h4.ob 3
      have hsk : s + 1 ≤ kc4 := by have := h4.ks.rd.le; simp at this; have := HSd.out; omega
      have H5 := Lib.hid (show FdW w0 w (w4.drew.setCell ⟨g, 3, none⟩ (.slice (some ⟨G, 0, none⟩) s kc4)) g P A n c gu (some ⟨G, 0, none⟩) done.length kc4 nd bud false R4 (done.map sortL) (covV n (rsU done cls)) from by
        rw [HSd.out]
        exact (h4.rebase HFa.out).pop hg)
      clear h4
      have hq2 : (0 : Int) ≤ (s : Int) := by omega
      have hq3 : (s : Int) ≤ (kc4 : Int) := by omega
      have hq4 : s ≤ kc4 := by omega
      have hq1 : IntKind.i64.wrap (s : Int) = (s : Int) := IntWalk.i64_in _ (by omega)
      go_wp2
      go_region
      all_goals
        go_wp2
        go_ret
        show RunPost _ _ _ _ _ _ _ _ _ _ _ _ _ _
        rw [HSr.out]
        exact ⟨rfl, nd, _, kc4, R4, hnl, H5.out⟩
    · skip
      have HR2 := Lib.hid (show Calls Try.prog 16 #[.pointer (some ⟨g, 0, none⟩), .slice (some ⟨wc.heap.size, 0, none⟩) 0 0] (wc.alloc (.cells #[] 2)) (RunPost w0 (wc.alloc (.cells #[] 2)) g P A n c gu bud (done ++ [cls]) [] (.full)) from by rw [← hsr]; exact HRn.out)
      have HSr := Lib.hid hsr
      clear hsr
      go_wp2_with fail
      refine (HR2.out).mono ?_
      rintro e w4 ⟨rfl, K4, kc4, R4, h4⟩
      skip
      rw [List.length_append, HSd.out, HMp.out, HUc.out] at h4
      obtain ⟨G, eG, _, _, _, _⟩ := h4.ks.at_ (k := done.length) (by simp)
      subst eG
      obtain ⟨_, _, _, q3, _, _, _⟩ := fd_cells h4.ob
      have f3 := obj_frozen h4.ob 3
      have hsk : s + 1 ≤ kc4 := by have := h4.ks.rd.le; simp at this; have := HSd.out; omega
      have H5 := Lib.hid (show FdW w0 w (w4.drew.setCell ⟨g, 3, none⟩ (.slice (some ⟨G, 0, none⟩) s kc4)) g P A n c gu (some ⟨G, 0, none⟩) done.length kc4 bud bud true R4 (done.map sortL) (covV n (rsU done cls)) from by
        rw [HSd.out]
        exact (h4.rebase HFa.out).pop hg)
      clear h4
      have hq2 : (0 : Int) ≤ (s : Int) := by omega
      have hq3 : (s : Int) ≤ (kc4 : Int) := by omega
      have hq4 : s ≤ kc4 := by omega
      have hq1 : IntKind.i64.wrap (s : Int) = (s : Int) := IntWalk.i64_in _ (by omega)
      go_wp2
      go_region
      all_goals
        go_wp2
        go_ret
        show RunPost _ _ _ _ _ _ _ _ _ _ _ _ _ _
        rw [HSr.out]
        exact ⟨rfl, _, kc4, R4, H5.out⟩
end Go.Proofs.Ythgbfgdnljgicab
