/-
  The reference's search for a resolution: try. Conditions: those of each theorem.
-/
import Derived.Test.YthgbfgdnljgicabRslR
namespace Go.Proofs.Ythgbfgdnljgicab
open Go.RowKit
set_option linter.unusedVariables false
set_option linter.unusedSimpArgs false

def FdFin (w0 wo wr : World) (g P : Nat) (A : Option Addr) (n c gu bud : Nat) (cs : List (List Int)) : Prop :=
  FrS w0.heap.size wo wr ∧ Below w0.heap.size w0 wr ∧ ∃ (nodes : Nat) (fl : Bool) (K : Option Addr) (kc : Nat) (Rk : Spine), wr.heap[g]? = some (fdObj P A n c gu K cs.length kc nodes bud fl) ∧ OwnM wr w0.heap.size K kc Rk (cs.map sortL)
def RunPost (w0 w : World) (g P : Nat) (A : Option Addr) (n c gu bud : Nat) (done : List (List Int)) (cls : List Int) (r : Fnd) (e : Ending) (w' : World) : Prop :=
  match r with
  | .yes cs => e = .returned (.bool true) ∧ FdFin w0 w w' g P A n c gu bud cs
  | .no l => e = .returned (.bool false) ∧ ∃ (nd : Nat) (K : Option Addr) (kc : Nat) (Rk : Spine), nd + l = bud ∧ FdW w0 w w' g P A n c gu K done.length kc nd bud false Rk (done.map sortL) (covV n (rsU done cls))
  | .full => e = .returned (.bool false) ∧ ∃ (K : Option Addr) (kc : Nat) (Rk : Spine), FdW w0 w w' g P A n c gu K done.length kc bud bud true Rk (done.map sortL) (covV n (rsU done cls))
theorem run_ret {w0 wo wr : World} {g P : Nat} {A : Option Addr} {n c gu bud : Nat} {done : List (List Int)} {cls : List Int} {r : Fnd} {e : Ending} (h : RunPost w0 wo g P A n c gu bud done cls r e wr) : ∃ b, e = .returned (.bool b) := by
  rcases r with cs | l | _
  · exact ⟨true, h.1⟩
  · exact ⟨false, h.1⟩
  · exact ⟨false, h.1⟩
def RunAt (w0 : World) (g P : Nat) (A : Option Addr) (n c gu bud : Nat) (xss : List (List Int)) (f : Nat) : Prop :=
  ∀ (w : World) (done : List (List Int)) (cls : List Int) (left nodes : Nat) (K : Option Addr) (kc : Nat) (Rk : Spine) (A5 : Option Addr) (c5 : Nat), RsOk xss done cls → rsM xss done cls < f → nodes + left = bud →
    FdW w0 w w g P A n c gu K done.length kc nodes bud false Rk (done.map sortL) (covV n (rsU done cls)) → OwnI w w0.heap.size A5 c5 (sortL cls) →
    Calls Try.prog 16 #[.pointer (some ⟨g, 0, none⟩), .slice A5 cls.length c5] w (RunPost w0 w g P A n c gu bud done cls (srch xss P f done cls left))

theorem RsOk.out_ {xss done : List (List Int)} {cls : List Int} {k : Nat} (h : RsOk xss done (cls ++ [(k : Int)])) : (k : Int) ∉ rsU done cls ∧ cls.Nodup ∧ (k : Int) ∉ cls ∧ k < xss.length := by
  have h1 := h.nod
  have h2 := h.lt
  rw [rsU_snoc] at h1 h2
  obtain ⟨h3, _, h4⟩ := List.nodup_append.1 h1
  have hu : (k : Int) ∉ rsU done cls := fun hm => h4 _ hm _ (List.mem_singleton.2 rfl) rfl
  refine ⟨hu, ?_, fun hm => hu (List.mem_append.2 (.inr hm)), ?_⟩
  · unfold rsU at h3
    exact (List.nodup_append.1 h3).2.1
  · have := h2 (k : Int) (List.mem_append.2 (.inr (List.mem_singleton.2 rfl)))
    omega

set_option maxRecDepth 100000 in
set_option maxHeartbeats 4000000 in
/-- No node is left. -/
theorem try0_c (w0 w : World) {g P n c gu bud kc : Nat} {fl : Bool} {A K A5 : Option Addr} {Rk : Spine} {done : List (List Int)} {cls : List Int} (hg : w0.heap.size ≤ g) (m c5 k : Nat)
    (h : FdW w0 w w g P A n c gu K done.length kc bud bud fl Rk (done.map sortL) (covV n (rsU done cls))) :
    Calls Try.prog 33 #[.pointer (some ⟨g, 0, none⟩), .slice A5 m c5, .int .i64 (k : Int)] w (RunPost w0 w g P A n c gu bud done cls .full) := by
  obtain ⟨_, _, _, _, q4, q5, q6⟩ := fd_cells h.ob
  have f6 := obj_frozen h.ob 6
  have H := Lib.hid h
  obtain ⟨x, hx⟩ : ∃ x : Int, x = (bud : Int) := ⟨_, rfl⟩
  rw [← hx] at q4 q5
  clear h hx
  have hxx : (x == x) = true := by simp
  go_enter Try.func33, Try.ntmps33
  go_wp2
  go_quiet (fail)
  have H1 := Lib.hid ((H.out.drewN nq).flag hg true)
  have f6' : (w.drewN nq).frozen? ⟨g, 6, none⟩ = false := f6
  have q6' : (w.drewN nq).cell? ⟨g, 6, none⟩ = some (.bool fl) := q6
  clear q4 q5 q6 f6
  generalize w.drewN nq = w1 at *
  go_wp2
  go_ret
  exact ⟨rfl, K, kc, Rk, H1.out⟩

set_option maxRecDepth 100000 in
set_option maxHeartbeats 8000000 in
theorem try1_c (w0 w : World) {g P : Nat} {A : Option Addr} {n c gu bud : Nat} {xss : List (List Int)} {f : Nat} (hR : RunAt w0 g P A n c gu bud xss f) (hg : w0.heap.size ≤ g) (hn : xss.length = n) (hn128 : n ≤ 128) (hb2 : bud ≤ 20000)
    {done : List (List Int)} {cls : List Int} {k l nodes : Nat} {K : Option Addr} {kc : Nat} {Rk : Spine} {A5 : Option Addr} {c5 : Nat} (hok : RsOk xss done (cls ++ [(k : Int)])) (hm : rsM xss done (cls ++ [(k : Int)]) < f) (hl : nodes + (l + 1) = bud)
    (h : FdW w0 w w g P A n c gu K done.length kc nodes bud false Rk (done.map sortL) (covV n (rsU done cls))) (hc : OwnI w w0.heap.size A5 c5 (sortL cls)) :
    Calls Try.prog 33 #[.pointer (some ⟨g, 0, none⟩), .slice A5 cls.length c5, .int .i64 (k : Int)] w (RunPost w0 w g P A n c gu bud done cls (srch xss P f done (cls ++ [(k : Int)]) l)) := by
  obtain ⟨hu, hnd, hkc, hkn⟩ := hok.out_
  have hkn : k < n := by omega
  have hcl : cls.length ≤ 128 := by
    have := hok.len
    unfold rsU at this
    simp at this
    omega
  obtain ⟨_, _, q2, _, q4, q5, q6⟩ := fd_cells h.ob
  have f4 := obj_frozen h.ob 4
  have H := Lib.hid h
  have HC := Lib.hid hc
  have HPs := Lib.hid (put_sorted hnd hkc)
  have HUs := Lib.hid (rsU_snoc done cls (k : Int))
  have HU := Lib.hid hu
  have HRu := Lib.hid (fun (W : World) (A7 : Option Addr) (c7 : Nat) (hF : FdW w0 W W g P A n c gu K done.length kc (nodes + 1) bud false Rk (done.map sortL) (covV n (rsU done (cls ++ [(k : Int)])))) (hI : OwnI W w0.heap.size A7 c7 (sortL (cls ++ [(k : Int)]))) => hR W done (cls ++ [(k : Int)]) l (nodes + 1) K kc Rk A7 c7 hok hm (by omega) hF hI)
  have hnb : ¬ (nodes : Int) = (bud : Int) := by omega
  have hnb2 : ((nodes : Int) == (bud : Int)) = false := by simp; omega
  have hnb3 : ¬ nodes = bud := by omega
  have hnb4 : (nodes == bud) = false := by simp; omega
  have hno : nodes ≤ 20000 := by omega
  have hk0 : (0 : Int) ≤ (k : Int) := by omega
  have hk1 : (k : Int) < (n : Int) := by omega
  clear h hc hR hok hm hu hnd hkc hn hl
  obtain ⟨m, hmm⟩ : ∃ m, m = cls.length := ⟨_, rfl⟩
  have HMm := Lib.hid hmm
  rw [← hmm] at hcl ⊢
  clear hmm
  go_enter Try.func33, Try.ntmps33
  go_wp2
  go_quiet (fail)
  have H1 := Lib.hid (H.out.drewN nq)
  clear q2 q4 q5 q6 f4 hnb hnb2 hnb3 hnb4
  generalize w.drewN nq = w1 at *
  obtain ⟨_, _, q2, _, q4, q5, q6⟩ := fd_cells H1.out.ob
  have f4 := obj_frozen H1.out.ob 4
  have H2 := Lib.hid (show FdW w0 w (w1.setCell ⟨g, 4, none⟩ (.int .i64 ((nodes : Int) + 1))) g P A n c gu K done.length kc (nodes + 1) bud false Rk (done.map sortL) (covV n (rsU done cls)) from H1.out.node hg (nodes + 1))
  obtain ⟨_, _, r2, _, _, _, _⟩ := fd_cells H2.out.ob
  obtain ⟨u1, u2⟩ := H2.out.us.at_ hkn
  have H3 := Lib.hid (show FdW w0 w ((w1.setCell ⟨g, 4, none⟩ (.int .i64 ((nodes : Int) + 1))).setCell ⟨gu, k, none⟩ (.bool true)) g P A n c gu K done.length kc (nodes + 1) bud false Rk (done.map sortL) (covV n (rsU done (cls ++ [(k : Int)]))) from by
    have := H2.out.used k true
    rwa [covV_set hkn, ← HUs.out] at this)
  have HPu := Lib.hid (l00Put_c ((w1.setCell ⟨g, 4, none⟩ (.int .i64 ((nodes : Int) + 1))).setCell ⟨gu, k, none⟩ (.bool true)) A5 m c5 (sortL cls) (k : Int) (HC.out.frS H3.out.fr).rd (by rw [sortL_len]; exact HMm.out.symm) (by omega))
  go_wp2_with fail
  refine (HPu.out).mono ?_
  rintro e w3 ⟨⟨A7, n7, c7, rfl, hn7, ho7⟩, hb7⟩
  have HF7 := Lib.hid (H3.out.step hb7)
  rw [HPs.out] at hn7 ho7
  rw [sortL_len, List.length_append, ← HMm.out] at hn7
  obtain rfl : m + 1 = n7 := hn7
  have HRn := Lib.hid (show Calls Try.prog 16 #[.pointer (some ⟨g, 0, none⟩), .slice A7 (m + 1) c7] w3 (RunPost w0 w3 g P A n c gu bud done (cls ++ [(k : Int)]) (srch xss P f done (cls ++ [(k : Int)]) l)) from by
    have := HRu.out w3 A7 c7 HF7.out.base (ho7.lower H3.out.bl.size)
    rwa [List.length_append, ← HMm.out] at this)
  clear ho7 hb7 q2 q4 q5 q6 f4 r2 u1 u2
  rcases hsr : srch xss P f done (cls ++ [(k : Int)]) l with cs | l' | _
  · have HR2 := Lib.hid (show Calls Try.prog 16 #[.pointer (some ⟨g, 0, none⟩), .slice A7 (m + 1) c7] w3 (RunPost w0 w3 g P A n c gu bud done (cls ++ [(k : Int)]) (.yes cs)) from by rw [← hsr]; exact HRn.out)
    have HSr := Lib.hid hsr
    clear hsr
    go_wp2_with fail
    refine (HR2.out).mono ?_
    rintro e w4 ⟨rfl, hf4⟩
    have HF4 := Lib.hid hf4
    clear hf4
    go_wp2
    go_ret
    show RunPost _ _ _ _ _ _ _ _ _ _ _ _ _ _
    rw [HSr.out]
    exact ⟨rfl, HF7.out.fr.trans HF4.out.1, HF4.out.2.1, HF4.out.2.2⟩
  · skip
    have HR2 := Lib.hid (show Calls Try.prog 16 #[.pointer (some ⟨g, 0, none⟩), .slice A7 (m + 1) c7] w3 (RunPost w0 w3 g P A n c gu bud done (cls ++ [(k : Int)]) (.no l')) from by rw [← hsr]; exact HRn.out)
    have HSr := Lib.hid hsr
    clear hsr
    go_wp2_with fail
    refine (HR2.out).mono ?_
    rintro e w4 ⟨rfl, nd, K4, kc4, R4, h4⟩
    obtain ⟨hnl, h4⟩ := h4
    obtain ⟨_, _, q2, _, _, _, _⟩ := fd_cells h4.ob
    obtain ⟨u1, u2⟩ := h4.us.at_ hkn
    have H5 := Lib.hid (show FdW w0 w (w4.setCell ⟨gu, k, none⟩ (.bool false)) g P A n c gu K4 done.length kc4 nd bud false R4 (done.map sortL) (covV n (rsU done cls)) from by
      have := (h4.rebase HF7.out.fr).used k false
      rw [HUs.out, show rsU done cls ++ [(k : Int)] = rsU done cls ++ (k : Int) :: [] from rfl, covV_unset hkn HU.out (by simp), List.append_nil] at this
      exact this)
    clear h4
    go_wp2
    go_ret
    show RunPost _ _ _ _ _ _ _ _ _ _ _ _ _ _
    rw [HSr.out]
    exact ⟨rfl, nd, K4, kc4, R4, hnl, H5.out⟩
  · skip
    have HR2 := Lib.hid (show Calls Try.prog 16 #[.pointer (some ⟨g, 0, none⟩), .slice A7 (m + 1) c7] w3 (RunPost w0 w3 g P A n c gu bud done (cls ++ [(k : Int)]) (.full)) from by rw [← hsr]; exact HRn.out)
    have HSr := Lib.hid hsr
    clear hsr
    go_wp2_with fail
    refine (HR2.out).mono ?_
    rintro e w4 ⟨rfl, K4, kc4, R4, h4⟩
    skip
    obtain ⟨_, _, q2, _, _, _, _⟩ := fd_cells h4.ob
    obtain ⟨u1, u2⟩ := h4.us.at_ hkn
    have H5 := Lib.hid (show FdW w0 w (w4.setCell ⟨gu, k, none⟩ (.bool false)) g P A n c gu K4 done.length kc4 bud bud true R4 (done.map sortL) (covV n (rsU done cls)) from by
      have := (h4.rebase HF7.out.fr).used k false
      rw [HUs.out, show rsU done cls ++ [(k : Int)] = rsU done cls ++ (k : Int) :: [] from rfl, covV_unset hkn HU.out (by simp), List.append_nil] at this
      exact this)
    clear h4
    go_wp2
    go_ret
    show RunPost _ _ _ _ _ _ _ _ _ _ _ _ _ _
    rw [HSr.out]
    exact ⟨rfl, K4, kc4, R4, H5.out⟩
end Go.Proofs.Ythgbfgdnljgicab
