/-
  The reference's search for a resolution: run, one step: a class goes on. Conditions: those of each theorem.
-/
import Derived.Test.YthgbfgdnljgicabRslS
import Derived.Test.YthgbfgdnljgicabRslG
namespace Go.Proofs.Ythgbfgdnljgicab
open Go.RowKit
set_option linter.unusedVariables false
set_option linter.unusedSimpArgs false

theorem RdM.openR {w : World} {A : Option Addr} {c : Nat} {R : Spine} {h : List (List Int)} (hr : RdM w A c R h) (hn : 0 < h.length) :
    ∃ b off, A = some ⟨b, off, none⟩ ∧ b < w.heap.size ∧ ∀ k, k < h.length → w.cell? ⟨b, off + k, none⟩ = some (.slice (R k).1 (row h k).length (R k).2) := by
  obtain ⟨b, off, rfl, hb, _⟩ := hr.at_ 0 hn
  refine ⟨b, off, rfl, hb, fun k hk => ?_⟩
  obtain ⟨b', off', e, _, hc⟩ := hr.at_ k hk
  injection e with e
  injection e with e1 e2
  subst e1 e2
  exact hc
/-- Whether block j parts from the first i blocks of a class. -/
def frTo (xss : List (List Int)) (cs : List Int) (j i : Nat) : Bool := !((cs.take i).any fun k => meetR (row xss k.toNat) (row xss j))
theorem frTo_succ {xss : List (List Int)} {cs : List Int} {j i : Nat} (h : i < cs.length) : frTo xss cs j (i + 1) = (frTo xss cs j i && !(meetR (row xss (nth cs i).toNat) (row xss j))) := by
  unfold frTo
  rw [take_nth h, List.any_append, Bool.not_or]
  simp
theorem frTo_less {xss : List (List Int)} {cs : List Int} {j i m : Nat} (h : frTo xss cs j i = false) (hi : i ≤ m) : frTo xss cs j m = false := by
  unfold frTo at *
  rw [Bool.not_eq_false', List.any_eq_true] at *
  obtain ⟨x, hx, h⟩ := h
  exact ⟨x, (List.take_subset_take_left cs hi) hx, h⟩
theorem meetR_true {xs ys : List Int} : meetR xs ys = true ↔ ∃ z, z ∈ xs ∧ z ∈ ys := by
  unfold meetR
  rw [anyTo_true]
  constructor
  · rintro ⟨k, hk, h⟩; exact ⟨nth xs k, by rw [nth_eq hk]; exact List.getElem_mem hk, hasB_true.1 h⟩
  · rintro ⟨z, hz, h⟩
    obtain ⟨k, hk, rfl⟩ := List.getElem_of_mem hz
    exact ⟨k, hk, by rw [nth_eq hk]; exact hasB_true.2 h⟩
theorem frTo_fit {xss done : List (List Int)} {cls : List Int} {p : Int} {j m : Nat} (hm : (sortL cls).length = m) : fitK xss done cls p j = (!(hasB (rsU done cls) (j : Int)) && (hasB (row xss j) p && frTo xss (sortL cls) j m)) := by
  unfold fitK frTo
  rw [List.take_of_length_le (by omega)]
  congr 2
  congr 1
  rw [Bool.eq_iff_iff, List.any_eq_true, List.any_eq_true]
  constructor
  · rintro ⟨x, hx, h⟩
    obtain ⟨i, hi, h2⟩ := ptC_mem.1 (hasB_true.1 h)
    exact ⟨i, sortL_mem.2 hi, meetR_true.2 ⟨x, h2, hx⟩⟩
  · rintro ⟨i, hi, h⟩
    obtain ⟨x, h1, h2⟩ := meetR_true.1 h
    exact ⟨x, h2, hasB_true.2 (ptC_mem.2 ⟨i, sortL_mem.1 hi, h1⟩)⟩

set_option maxRecDepth 100000 in
set_option maxHeartbeats 16000000 in
theorem run_scan (w0 : World) {g P : Nat} {A : Option Addr} {n c gu bud : Nat} {R : Spine} {xss : List (List Int)} {f : Nat} (hR : RunAt w0 g P A n c gu bud xss f) (hg : w0.heap.size ≤ g) (hr : RdM w0 A c R xss) (hn : xss.length = n) (hn128 : n ≤ 128) (hP : P ≤ 32) (hb2 : bud ≤ 20000) (hrow : rowsNodup xss)
    (w : World) {done : List (List Int)} {cls : List Int} {left nodes : Nat} {K : Option Addr} {kc : Nat} {Rk : Spine} {A5 : Option Addr} {c5 : Nat} (hok : RsOk xss done cls) (hm : rsM xss done cls < f + 1) (hcs : cls ≠ []) (hl : nodes + left = bud) {p : Nat} (hp : p < P) (hgap : gapI P (ptC xss cls) = (p : Int))
    (h : FdW w0 w w g P A n c gu K done.length kc nodes bud false Rk (done.map sortL) (covV n (rsU done cls))) (hc : OwnI w w0.heap.size A5 c5 (sortL cls)) :
    Calls Try.prog 16 #[.pointer (some ⟨g, 0, none⟩), .slice A5 cls.length c5] w (RunPost w0 w g P A n c gu bud done cls (srch xss P (f + 1) done cls left)) := by
  obtain ⟨r, hr_⟩ : ∃ r, r = srch xss P (f + 1) done cls left := ⟨_, rfl⟩
  rw [← hr_]
  obtain ⟨G, hG⟩ : ∃ G, G = fun (k : Nat) (l : Nat) => srch xss P f done (cls ++ [(k : Int)]) l := ⟨_, rfl⟩
  have HGe := Lib.hid (show ∀ (k l : Nat), G k l = srch xss P f done (cls ++ [(k : Int)]) l from fun k l => by rw [hG])
  have hsc : ScRel r G (fitK xss done cls (p : Int)) n 0 left false := ⟨(fun _ => by rw [hr_, srch_e2 hcs (by omega), hgap, hn, hG]; rfl), (fun e => by cases e)⟩
  obtain ⟨m, hmm⟩ : ∃ m, m = cls.length := ⟨_, rfl⟩
  have hm0 : 0 < m := by
    rcases cls with _ | _
    · exact absurd rfl hcs
    · rw [hmm]; simp
  have hlen := hok.len
  have hm128 : m ≤ 128 := by
    unfold rsU at hlen
    rw [List.length_append] at hlen
    omega
  have hn0 : 0 < n := by
    unfold rsU at hlen
    rw [List.length_append] at hlen
    omega
  have hsl : (sortL cls).length = m := by rw [sortL_len, hmm]
  have hltm : ∀ k ∈ sortL cls, 0 ≤ k ∧ k < (n : Int) := fun k hk => by
    have := hok.lt k (List.mem_append.2 (.inr (sortL_mem.1 hk)))
    omega
  have hv : gapI P (ptC xss (sortL cls)) = (p : Int) := by rw [ptC_sort]; exact hgap
  have hGp := gap_c w h.ob R xss (hr.below h.bl) hn A5 m c5 (sortL cls) hc.rd hsl hltm hP hn128 (by omega)
  rw [hv] at hGp
  have HGp := Lib.hid hGp
  have H := Lib.hid h
  have HC := Lib.hid hc
  have HSl := Lib.hid hsl
  have HLt := Lib.hid hltm
  have HSc := Lib.hid hsc
  obtain ⟨b, off, rfl, hb, hcl⟩ := hr.openR (by omega)
  have HCl := Lib.hid (fun (k : Nat) (hk : k < n) => hcl k (by omega))
  have HRr := Lib.hid (fun (k : Nat) (hk : k < n) => hr.rows k (by omega))
  have HFt := Lib.hid (fun (j : Nat) => frTo_fit (xss := xss) (done := done) (cls := cls) (p := (p : Int)) (j := j) hsl)
  have HT0 := Lib.hid (fun (W : World) (j : Nat) (fl : Bool) (K' : Option Addr) (kc' : Nat) (R' : Spine) (hF : FdW w0 W W g P (some ⟨b, off, none⟩) n c gu K' done.length kc' bud bud fl R' (done.map sortL) (covV n (rsU done cls))) => try0_c w0 W (cls := cls) (A5 := A5) hg m c5 j hF)
  have HT1 := Lib.hid (fun (W : World) (j l nd : Nat) (hj : j < n) (hf : fitK xss done cls (p : Int) j = true) (hnl : nd + (l + 1) = bud) (K' : Option Addr) (kc' : Nat) (R' : Spine) (hF : FdW w0 W W g P (some ⟨b, off, none⟩) n c gu K' done.length kc' nd bud false R' (done.map sortL) (covV n (rsU done cls))) (hI : OwnI W w0.heap.size A5 c5 (sortL cls)) =>
    (show Calls Try.prog 33 #[.pointer (some ⟨g, 0, none⟩), .slice A5 m c5, .int .i64 (j : Int)] W (RunPost w0 W g P (some ⟨b, off, none⟩) n c gu bud done cls (srch xss P f done (cls ++ [(j : Int)]) l)) from by
      obtain ⟨hok1, hm1⟩ := hok.more hrow hcs (show j < xss.length by omega) hf
      have := try1_c w0 W hR hg hn hn128 hb2 hok1 (by omega) hnl hF hI
      rwa [← hmm] at this))
  obtain ⟨U, hU⟩ : ∃ U, U = rsU done cls := ⟨_, rfl⟩
  rw [← hU] at HFt
  have HUe := Lib.hid hU
  rw [← hmm]
  clear h hc hR hok hm hlen hsl hv hGp hgap hcs hmm hr hsc hltm hcl hG hr_ hU hrow
  go_enter Try.func16, Try.ntmps16
  go_wp2_with fail
  refine (HGp.out).mono ?_
  rintro e w1 ⟨rfl, q, rfl⟩
  have H1 := Lib.hid (H.out.drewN q)
  generalize w.drewN q = w1 at *
  have hp0 : (0 : Int) ≤ (p : Int) := by omega
  go_wp2
  go_loopw [6, 7, 8] (fun v _ _ wr => ∃ (j l nd : Nat) (sp : Bool) (K' : Option Addr) (kc' : Nat) (R' : Spine), j ≤ n ∧ v = .int .i64 j ∧ nd + l = bud ∧ Hid (ScRel r G (fitK xss done cls (p : Int)) n j l sp) ∧ Hid (FdW w0 w wr g P (some ⟨b, off, none⟩) n c gu K' done.length kc' nd bud sp R' (done.map sortL) (covV n (rsU done cls)))) (fun v _ _ _ => n - (intOf v).toNat)
  case atStart => exact ⟨0, left, nodes, false, K, kc, Rk, Nat.zero_le _, rfl, hl, HSc, H1⟩
  case round =>
    obtain ⟨j, l, nd, sp, K', kc', R', hj, rfl, hnl, HS, HF⟩ := hrel
    obtain ⟨_, q1, q2, _, _, _, _⟩ := fd_cells HF.out.ob
    by_cases hjn : j < n
    · have hcu := (HF.out.us.at_ hjn).1
      rw [covV_flag hjn, ← HUe.out] at hcu
      have hcj := (HF.out.bl.cell (p := ⟨b, off + j, none⟩) hb).trans (HCl.out j hjn)
      have HHs := Lib.hid (has_c wr (R j).1 (row xss j).length (R j).2 (row xss j) (p : Int) ((HRr.out j hjn).below HF.out.bl) rfl)
      have HFj := Lib.hid (HFt.out j)
      have hj0 : (0 : Int) ≤ (j : Int) := by omega
      have hj1 : (j : Int) < (n : Int) := by omega
      obtain ⟨wo, rfl⟩ : ∃ wo, wo = wr := ⟨_, rfl⟩
      rcases hu : hasB U (j : Int) with _ | _
      · rcases hh : hasB (row xss j) (p : Int) with _ | _
        · have HSn := Lib.hid (HS.out.miss hjn (by rw [HFj.out, hu, hh]; rfl))
          rw [hu] at hcu
          rw [hh] at HHs
          clear hu hh
          go_wp2_with fail
          refine (HHs.out).mono ?_
          rintro e w2 ⟨rfl, rfl⟩
          clear hcu hcj
          go_wp2
          go_loopw [7, 8] (fun a v wr => v = .int .i64 0 ∧ a = .bool false ∧ wr = wo) (fun _ _ _ => 0)
          case atStart => exact ⟨rfl, rfl, rfl⟩
          case round =>
            obtain ⟨rfl, rfl, rfl⟩ := hrel
            go_wp2
            go_roundw
            case rel => exact ⟨j + 1, l, nd, sp, K', kc', R', by omega, by go_num, hnl, HSn, HF⟩
            case measure => simp [intOf]; omega
        · have HFi := Lib.hid (show fitK xss done cls (p : Int) j = frTo xss (sortL cls) j m from by rw [HFj.out, hu, hh]; rfl)
          rw [hu] at hcu
          rw [hh] at HHs
          clear hu hh
          go_wp2_with fail
          refine (HHs.out).mono ?_
          rintro e w2 ⟨rfl, rfl⟩
          clear hcu
          go_wp2
          go_loopw [7, 8] (fun a v wr => ∃ i : Nat, i ≤ m ∧ v = .int .i64 i ∧ a = .bool (frTo xss (sortL cls) j i) ∧ Qt wo wr) (fun _ v _ => m - (intOf v).toNat)
          case atStart => exact ⟨0, Nat.zero_le _, rfl, by simp [frTo], Qt.refl _⟩
          case round =>
            obtain ⟨i, hi, rfl, rfl, ⟨q2, rfl⟩⟩ := hrel
            have HFq := Lib.hid (HF.out.drewN q2)
            have HLe := Lib.hid (fun (h : frTo xss (sortL cls) j i = false) => HS.out.miss hjn (by rw [HFi.out]; exact frTo_less h hi))
            by_cases him : i < m
            · rcases hfr : frTo xss (sortL cls) j i with _ | _
              · have HSn := Lib.hid (HLe.out hfr)
                clear hfr
                generalize wo.drewN q2 = w3 at *
                clear hcj q1 q2
                go_wp2
                go_roundw
                case rel => exact ⟨j + 1, l, nd, sp, K', kc', R', by omega, by go_num, hnl, HSn, HFq⟩
                case measure => simp [intOf]; omega
              · have hix : i < (sortL cls).length := by rw [HSl.out]; exact him
                have hel := HLt.out (nth (sortL cls) i) (by rw [nth_eq hix]; exact List.getElem_mem hix)
                obtain ⟨x, hx⟩ : ∃ x : Nat, nth (sortL cls) i = (x : Int) := ⟨(nth (sortL cls) i).toNat, by omega⟩
                obtain ⟨b5, off5, e5, hb5, hc5⟩ := (HC.out.frS HF.out.fr).rd.at_ i hix
                have hxn : x < n := by omega
                have hcx := (HF.out.bl.cell (p := ⟨b, off + x, none⟩) hb).trans (HCl.out x hxn)
                have HSu := Lib.hid (frTo_succ (xss := xss) (j := j) hix)
                rw [hx] at hc5
                rw [hx, hfr, Bool.true_and, show ((x : Int)).toNat = x from rfl] at HSu
                have HMe := Lib.hid (fun z => l12MeetR_c (wo.drewN z) (R x).1 (R j).1 (row xss x).length (row xss j).length (R x).2 (R j).2 (row xss x) (row xss j) (((HRr.out x hxn).below HF.out.bl).drewN z) rfl (((HRr.out j hjn).below HF.out.bl).drewN z) rfl)
                have hi0 : (0 : Int) ≤ (i : Int) := by omega
                have hi1 : (i : Int) < (m : Int) := by omega
                have hx0 : (0 : Int) ≤ (x : Int) := by omega
                have hx1 : (x : Int) < (n : Int) := by omega
                have HE5 := Lib.hid e5
                have hm5 : wo.cell? ⟨b5, off5 + i, none⟩ = some (.int .i64 (x : Int)) := hc5
                clear hel hx hc5 hb5 hfr
                rcases hv : meetR (row xss x) (row xss j) with _ | _
                · rw [hv] at HMe HSu
                  clear hv
                  rw [e5]
                  clear e5
                  go_wp2
                  go_quiet ((go_at_call 32; first | (with_reducible exact quiet_endN (HMe.out _)) | (with_reducible exact quiet_end0 (HMe.out _))))
                  go_wp2
                  go_roundw
                  case rel => exact ⟨i + 1, by omega, by go_num, by rw [HSu.out]; rfl, ⟨q2 + nq, by first | rfl | rw [World.drewN_drewN]⟩⟩
                  case measure => simp [intOf]; omega
                · rw [hv] at HMe HSu
                  clear hv
                  rw [e5]
                  clear e5
                  go_wp2
                  go_quiet ((go_at_call 32; first | (with_reducible exact quiet_endN (HMe.out _)) | (with_reducible exact quiet_end0 (HMe.out _))))
                  go_wp2
                  go_roundw
                  case rel => exact ⟨i + 1, by omega, by go_num, by rw [HSu.out]; rfl, ⟨q2 + nq, by first | rfl | rw [World.drewN_drewN]⟩⟩
                  case measure => simp [intOf]; omega
            · obtain rfl : i = m := by omega
              rcases hfr : frTo xss (sortL cls) j i with _ | _
              · have HSn := Lib.hid (HLe.out hfr)
                clear hfr
                generalize wo.drewN q2 = w3 at *
                clear hcj q1 q2
                go_wp2
                go_roundw
                case rel => exact ⟨j + 1, l, nd, sp, K', kc', R', by omega, by go_num, hnl, HSn, HFq⟩
                case measure => simp [intOf]; omega
              · have Hf := Lib.hid (show fitK xss done cls (p : Int) j = true from by rw [HFi.out]; exact hfr)
                clear hfr
                generalize wo.drewN q2 = w3 at *
                clear hcj q1 q2
                rcases sp with _ | _
                · rcases l with _ | l
                  · obtain rfl : nd = bud := by omega
                    have HT := Lib.hid (HT0.out w3 j false K' kc' R' HFq.out.base)
                    have HSn := Lib.hid (show ScRel r G (fitK xss done cls (p : Int)) n (j + 1) 0 true from ⟨(fun e => by cases e), fun _ => ⟨rfl, HS.out.zero hjn Hf.out⟩⟩)
                    go_wp2_with fail
                    refine (HT.out).mono ?_
                    rintro e w4 ⟨rfl, K4, kc4, R4, h4⟩
                    have HF4 := Lib.hid (h4.rebase HFq.out.fr)
                    clear h4
                    go_wp2
                    go_roundw
                    case rel => exact ⟨j + 1, 0, nd, true, K4, kc4, R4, by omega, by go_num, rfl, HSn, HF4⟩
                    case measure => simp [intOf]; omega
                  · have HT := Lib.hid (HT1.out w3 j l nd hjn Hf.out hnl K' kc' R' HFq.out.base (HC.out.frS HFq.out.fr))
                    rcases hsr : srch xss P f done (cls ++ [(j : Int)]) l with cs | l' | _
                    · have HRe := Lib.hid (HS.out.yes_ hjn Hf.out (by rw [HGe.out]; exact hsr))
                      have HT2 := Lib.hid (show Calls Try.prog 33 #[.pointer (some ⟨g, 0, none⟩), .slice A5 i c5, .int .i64 (j : Int)] w3 (RunPost w0 w3 g P (some ⟨b, off, none⟩) n c gu bud done cls (.yes cs)) from by rw [← hsr]; exact HT.out)
                      clear hsr
                      go_wp2_with fail
                      refine (HT2.out).mono ?_
                      rintro e w4 ⟨rfl, hf4⟩
                      have HF4 := Lib.hid hf4
                      clear hf4
                      go_wp2
                      go_ret
                      rw [HRe.out]
                      exact ⟨rfl, HFq.out.fr.trans HF4.out.1, HF4.out.2.1, HF4.out.2.2⟩
                    · have HSn := Lib.hid (HS.out.no_ hjn Hf.out (by rw [HGe.out]; exact hsr))
                      have HT2 := Lib.hid (show Calls Try.prog 33 #[.pointer (some ⟨g, 0, none⟩), .slice A5 i c5, .int .i64 (j : Int)] w3 (RunPost w0 w3 g P (some ⟨b, off, none⟩) n c gu bud done cls (.no l')) from by rw [← hsr]; exact HT.out)
                      clear hsr
                      go_wp2_with fail
                      refine (HT2.out).mono ?_
                      rintro e w4 ⟨rfl, nd4, K4, kc4, R4, hn4, h4⟩
                      have HF4 := Lib.hid (h4.rebase HFq.out.fr)
                      clear h4
                      go_wp2
                      go_roundw
                      case rel => exact ⟨j + 1, l', nd4, false, K4, kc4, R4, by omega, by go_num, hn4, HSn, HF4⟩
                      case measure => simp [intOf]; omega
                    · have HSn := Lib.hid (HS.out.full_ hjn Hf.out (by rw [HGe.out]; exact hsr))
                      have HT2 := Lib.hid (show Calls Try.prog 33 #[.pointer (some ⟨g, 0, none⟩), .slice A5 i c5, .int .i64 (j : Int)] w3 (RunPost w0 w3 g P (some ⟨b, off, none⟩) n c gu bud done cls (.full)) from by rw [← hsr]; exact HT.out)
                      clear hsr
                      go_wp2_with fail
                      refine (HT2.out).mono ?_
                      rintro e w4 ⟨rfl, K4, kc4, R4, h4⟩
                      have HF4 := Lib.hid (h4.rebase HFq.out.fr)
                      clear h4
                      go_wp2
                      go_roundw
                      case rel => exact ⟨j + 1, 0, bud, true, K4, kc4, R4, by omega, by go_num, rfl, HSn, HF4⟩
                      case measure => simp [intOf]; omega
                · obtain ⟨rfl, hre⟩ := HS.out.2 rfl
                  obtain rfl : nd = bud := by omega
                  have HT := Lib.hid (HT0.out w3 j true K' kc' R' HFq.out.base)
                  have HSn := Lib.hid (show ScRel r G (fitK xss done cls (p : Int)) n (j + 1) 0 true from ⟨(fun e => by cases e), fun _ => ⟨rfl, hre⟩⟩)
                  clear hre
                  go_wp2_with fail
                  refine (HT.out).mono ?_
                  rintro e w4 ⟨rfl, K4, kc4, R4, h4⟩
                  have HF4 := Lib.hid (h4.rebase HFq.out.fr)
                  clear h4
                  go_wp2
                  go_roundw
                  case rel => exact ⟨j + 1, 0, nd, true, K4, kc4, R4, by omega, by go_num, rfl, HSn, HF4⟩
                  case measure => simp [intOf]; omega
      · have HSn := Lib.hid (HS.out.miss hjn (by rw [HFj.out, hu]; rfl))
        rw [hu] at hcu
        clear hu
        go_wp2
        clear hcu hcj
        go_loopw [7, 8] (fun a v wr => v = .int .i64 0 ∧ a = .bool false ∧ wr = wo) (fun _ _ _ => 0)
        case atStart => exact ⟨rfl, rfl, rfl⟩
        case round =>
          obtain ⟨rfl, rfl, rfl⟩ := hrel
          go_wp2
          go_roundw
          case rel => exact ⟨j + 1, l, nd, sp, K', kc', R', by omega, by go_num, hnl, HSn, HF⟩
          case measure => simp [intOf]; omega
    · obtain rfl : j = n := by omega
      rcases sp with _ | _
      · have HRe := Lib.hid HS.out.end_
        go_wp2
        go_ret
        rw [HRe.out]
        exact ⟨rfl, nd, K', kc', R', hnl, HF.out⟩
      · obtain ⟨rfl, hre⟩ := HS.out.2 rfl
        have HRe := Lib.hid hre
        obtain rfl : nd = bud := by omega
        clear hre
        go_wp2
        go_ret
        rw [HRe.out]
        exact ⟨rfl, K', kc', R', HF.out⟩
end Go.Proofs.Ythgbfgdnljgicab
