/-
  TransposeHadamard, NegateLine, NormalHadamard: contracts of the program's and of the reference's functions. Conditions: those of each theorem.
-/
import Derived.Test.YtjoihaghoahnlaaHad2
import Derived.Test.YtjoihaghoahnlaaMat
namespace Go.Proofs.Ytjoihaghoahnlaa
open Go.RowKit
set_option linter.unusedVariables false
set_option linter.unusedSimpArgs false

theorem makeFunc_run : ∀ (fn : Fn) (first cap : Array Value) (w : World), (Instr.makeFunc fn first cap).run Try.prog w = .ok (.func fn first cap) w := fun _ _ _ _ => rfl

/-- A square of 1 and -1. -/
def PmF (f : Nat → Nat → Int) (n : Nat) : Prop := ∀ x y, x < n → y < n → f x y = 1 ∨ f x y = -1
def entry (h : List (List Int)) : Nat → Nat → Int := fun x y => nth (row h x) y
theorem ValidH.sq {h : List (List Int)} (hv : ValidH h) {n : Nat} (hn : h.length = n) : h = sqTo (entry h) n n ∧ PmF (entry h) n ∧ 1 ≤ n ∧ n ≤ 32 := by
  subst hn
  refine ⟨sq_of rfl fun x hx => (hv.2.1 x hx).1, fun x y hx hy => ?_, hv.1.1, hv.1.2⟩
  exact (hv.2.1 x hx).2 y hy

theorem quiet_w {f : FuncId} {args : Array Value} {w : World} {n : Nat} {v : Value} (h : Calls Try.prog f args (w.drewN n) fun e w' => e = .returned v ∧ w.drewN n = w') :
    Calls Try.prog f args (w.drewN n) fun e w' => e = .returned v ∧ ∃ m, w' = w.drewN m :=
  h.mono fun _ _ ⟨he, hm⟩ => ⟨he, n, hm.symm⟩

/-! ### The transpose -/

noncomputable def turnM (h : List (List Int)) : List (List Int) := if validB h = true then sqTo (fun x y => entry h y x) h.length h.length else []
noncomputable def turnC (h : List (List Int)) : Int := if validB h = true then 0 else 1

set_option maxHeartbeats 1000000 in
theorem l17Turn_c (w : World) (A : Option Addr) (n c : Nat) (R : Spine) (f : Nat → Nat → Int) (hr : RdM w A c R (sqTo f n n)) (h1 : 1 ≤ n) (h2 : n ≤ 1000) :
    Calls Try.prog 82 #[.slice A n c] w (PostM w (sqTo (fun x y => f y x) n n)) := by
  have H0 := Lib.hid (OwnM.lit0 w (Nat.le_refl w.heap.size) (fun _ => (none, 0)))
  obtain ⟨b, off, b0, o0, C0, rfl, hb, hc0, _, _⟩ := hr.sq_at (i := 0) (j := 0) (by omega) (by omega)
  have HR := Lib.hid hr
  clear hr
  go_enter Try.func82, Try.ntmps82
  go_wp2
  go_loopw [3, 4] (fun o i wr => ∃ (k : Nat) (A' : Option Addr) (c' : Nat) (R' : Spine), k ≤ n ∧ i = .int .i64 k ∧ o = .slice A' k c' ∧ OwnM wr w.heap.size A' c' R' (sqTo (fun x y => f y x) n k) ∧ Below w.heap.size w wr) (fun _ i _ => n - (intOf i).toNat)
  case atStart => exact ⟨0, _, _, _, Nat.zero_le _, rfl, rfl, H0.out, (Below.refl _ _).alloc (Nat.le_refl _) _⟩
  case round =>
    obtain ⟨k, A', c', R', hk, rfl, rfl, ho, hB⟩ := hrel
    obtain ⟨wo, rfl⟩ : ∃ wo : World, wo = wr := ⟨_, rfl⟩
    have HO := Lib.hid ho
    have hz := hB.size
    have hc0' := (hB.cell (p := ⟨b, off, none⟩) hb).trans hc0
    clear ho
    by_cases hlt : k < n
    · have HI0 := Lib.hid (OwnI.lit0 wo (Nat.le_refl wo.heap.size))
      go_wp2
      go_loopw [5, 6] (fun r y wi => ∃ (j : Nat) (A2 : Option Addr) (c2 : Nat), j ≤ n ∧ y = .int .i64 j ∧ r = .slice A2 j c2 ∧ OwnI wi wo.heap.size A2 c2 (rowTo (fun x y => f y x) k j) ∧ Below wo.heap.size wo wi) (fun _ y _ => n - (intOf y).toNat)
      case atStart => exact ⟨0, _, _, Nat.zero_le _, rfl, rfl, HI0.out, (Below.refl _ _).alloc (Nat.le_refl _) _⟩
      case round =>
        obtain ⟨j, A2, c2, hj, rfl, rfl, hi, hBi⟩ := hrel
        have HI := Lib.hid hi
        have hzi := hBi.size
        have hBw : Below w.heap.size w wr := hB.trans (hBi.mono hz)
        clear hi
        by_cases hlt2 : j < n
        · obtain ⟨b', off', b2, o2, C2, e, _, hcr, hb2, hcx⟩ := HR.out.sq_at (i := j) (j := k) hlt2 hlt
          injection e with e
          injection e with e1 e2
          subst e1 e2
          have hcr' := (hBw.cell (p := ⟨b, off + j, none⟩) hb).trans hcr
          have hcx' := (hBw.cell (p := ⟨b2, o2 + k, none⟩) hb2).trans hcx
          have HI1 := Lib.hid (HI.out.alloc (.cells #[.int .i64 (f j k)] 2))
          clear hcr hcx
          go_wp2_with (at_builtin
                       refine wpI_append rfl _ _ rfl wo.heap.size _ _ _ (rowTo (fun x y => f y x) k j) (f j k) wr.heap.size rfl rfl (length_rowTo _ k j) HI1.out (World.cell?_alloc_at _ _ _ _ rfl) (by omega) (by simp; omega) ?_
                       intro A3 c3 w3 ho3 hg3 ha3)
          have hB3 : Below wo.heap.size wo w3 := (hBi.alloc hzi _).trans (below_blk HI1.out hg3 (Nat.le_refl _) (by simp; omega))
          have HO3 := Lib.hid ho3
          have HS := Lib.hid (rowTo_succ (fun x y => f y x) k j)
          clear ho3 hg3 ha3
          go_wp2
          go_roundw
          case rel => exact ⟨j + 1, A3, c3, by omega, by go_num, rfl, by rw [HS.out]; exact HO3.out, hB3⟩
          case measure => simp [intOf]; omega
        · obtain rfl : j = n := by omega
          have HO1 := Lib.hid ((HO.out.below hBi).alloc (.cells #[.slice A2 j c2] 22))
          have HI1 := Lib.hid ((HI.out.lower hz).alloc (.cells #[.slice A2 j c2] 22))
          have HAp := Lib.hid (later_apart HO.out HI.out)
          have hz1 := hBw.size
          go_wp2_with (at_builtin
                       refine wpM_append rfl _ _ rfl w.heap.size _ _ _ R' (sqTo (fun x y => f y x) j k) A2 j c2 (rowTo (fun x y => f y x) k j) wr.heap.size rfl rfl (length_sqTo _ j k) (length_rowTo _ k j) HO1.out HI1.out HAp.out (World.cell?_alloc_at _ _ _ _ rfl) (by omega) (by simp; omega) ?_
                       intro A3 c3 R3 w3 ho3 hg3 ha3)
          have hB3 : Below w.heap.size w w3 := (hBw.alloc hz1 _).trans (below_blkM HO1.out hg3 (Nat.le_refl _) (by simp; omega))
          have HO3 := Lib.hid ho3
          have HS := Lib.hid (sqTo_succ (fun x y => f y x) j k)
          clear ho3 hg3 ha3
          go_wp2
          go_roundw
          case rel => exact ⟨k + 1, A3, c3, R3, by omega, by go_num, rfl, by rw [HS.out]; exact HO3.out, hB3⟩
          case measure => simp [intOf]; omega
    · obtain rfl : k = n := by omega
      have HL := Lib.hid (length_sqTo (fun x y => f y x) k k)
      go_wp2
      go_ret
      exact ⟨⟨A', k, c', R', rfl, HL.out, HO.out⟩, hB⟩

set_option maxHeartbeats 400000 in
theorem specTransposeHadamard_c (w : World) (A : Option Addr) (n c : Nat) (R : Spine) (h : List (List Int)) (hr : RdM w A c R h) (hn : h.length = n) (hw : WfM h) (hz : (n : Int) + (tot h : Nat) ≤ 1048576) :
    Calls Try.prog 44 #[.slice A n c] w (PostMC w (turnM h) (turnC h)) := by
  have hcall := l15Ok_c w A n c R h hr hn
  rcases hv : validB h with _ | _
  · rw [hv] at hcall
    rw [show turnM h = [] by simp [turnM, hv], show turnC h = 1 by simp [turnC, hv]]
    have HC := Lib.hid hcall
    clear hcall hv hr hn
    go_enter Try.func44, Try.ntmps44
    go_wp2_with fail
    refine (HC.out).mono ?_
    rintro e w1 ⟨rfl, hb⟩
    go_wp2
    go_ret2
    exact ⟨⟨none, 0, 0, fun _ => (none, 0), rfl, rfl, OwnM.nil_ _ _ _⟩, hb⟩
  · rw [hv] at hcall
    obtain ⟨hs, _, hn1, hn2⟩ := (validB_iff.1 hv).sq hn
    rw [show turnM h = sqTo (fun x y => entry h y x) n n by simp [turnM, hv, hn], show turnC h = 0 by simp [turnC, hv]]
    have hr2 : RdM w A c R (sqTo (entry h) n n) := by rw [← hs]; exact hr
    have HC := Lib.hid hcall
    have HR := Lib.hid hr2
    clear hcall hv hs hr hn hr2
    go_enter Try.func44, Try.ntmps44
    go_wp2_with fail
    refine (HC.out).mono ?_
    rintro e w1 ⟨rfl, hb⟩
    go_wp2_with fail
    refine (l17Turn_c w1 A n c R (entry h) (HR.out.below hb) hn1 (by omega)).mono ?_
    rintro e w2 ⟨⟨A2, n2, c2, R2, rfl, hn2', ho2⟩, hb2⟩
    have HL := Lib.hid hn2'
    have HO := Lib.hid (ho2.lower hb.size)
    have hB : Below w.heap.size w w2 := hb.trans (hb2.mono hb.size)
    clear hn2' ho2
    go_wp2
    go_ret2
    exact ⟨⟨A2, n2, c2, R2, rfl, HL.out, HO.out⟩, hB⟩

/-- The literal of TransposeHadamard: the element at the other place. -/
theorem turnAt_c (W : World) (B : Nat) (A : Option Addr) (n c : Nat) (R : Spine) (f : Nat → Nat → Int) (x y : Nat) (hx : x < n) (hy : y < n) (hn : n ≤ 1000)
    (hcell : W.cell? ⟨B, 0, none⟩ = some (.slice A n c)) (hr : RdM W A c R (sqTo f n n)) :
    Calls Try.prog 84 #[.int .i64 (x : Int), .int .i64 (y : Int), .pointer (some ⟨B, 0, none⟩)] W (PostV W (.int .i64 (f y x))) := by
  obtain ⟨b, off, b2, o2, C2, rfl, _, hcr, _, hcx⟩ := hr.sq_at (i := y) (j := x) hy hx
  clear hr
  go_enter Try.func84, Try.ntmps84
  go_wp2
  go_ret
  exact ⟨rfl, Below.refl _ _⟩

set_option maxHeartbeats 1000000 in
theorem implTransposeHadamard_c (w : World) (A : Option Addr) (n c : Nat) (R : Spine) (h : List (List Int)) (hr : RdM w A c R h) (hn : h.length = n) (hw : WfM h) (hz : (n : Int) + (tot h : Nat) ≤ 1048576) :
    Calls Try.prog 45 #[.slice A n c] w (PostMC w (turnM h) (turnC h)) := by
  have hB0 : Below w.heap.size w (w.alloc (.cells #[.slice A n c] 27)) := (Below.refl _ _).alloc (Nat.le_refl _) _
  have hcall := implValid_c (w.alloc (.cells #[.slice A n c] 27)) A n c R h (hr.below hB0) hn (by omega)
  have hmf := makeFunc_run
  rcases hv : validB h with _ | _
  · rw [hv] at hcall
    rw [show turnM h = [] by simp [turnM, hv], show turnC h = 1 by simp [turnC, hv]]
    have HC := Lib.hid hcall
    clear hcall hv hr hn
    go_enter Try.func45, Try.ntmps45
    go_wp2_with fail
    refine (HC.out).mono ?_
    rintro e w1 ⟨rfl, hb⟩
    have hB1 : Below w.heap.size w w1 := hB0.trans (hb.mono (by simp))
    go_wp2
    go_ret2
    exact ⟨⟨none, 0, 0, fun _ => (none, 0), rfl, rfl, OwnM.nil_ _ _ _⟩, hB1⟩
  · rw [hv] at hcall
    obtain ⟨hs, _, hn1, hn2⟩ := (validB_iff.1 hv).sq hn
    rw [show turnM h = sqTo (fun x y => entry h y x) n n by simp [turnM, hv, hn], show turnC h = 0 by simp [turnC, hv]]
    have hr2 : RdM (w.alloc (.cells #[.slice A n c] 27)) A c R (sqTo (entry h) n n) := by rw [← hs]; exact hr.below hB0
    have HC := Lib.hid hcall
    have HR := Lib.hid hr2
    have eg := Lib.hid (enters_of Try.func84 (by kernel_rfl) rfl)
    clear hcall hv hs hr hn hr2
    go_enter Try.func45, Try.ntmps45
    go_wp2_with fail
    refine (HC.out).mono ?_
    rintro e w1 ⟨rfl, hb⟩
    have hcb : w1.cell? ⟨w.heap.size, 0, none⟩ = some (.slice A n c) := (hb.cell (p := ⟨w.heap.size, 0, none⟩) (by simp)).trans (World.cell?_alloc_at _ _ _ _ rfl)
    have hs1 : w.heap.size + 1 ≤ w1.heap.size := by have := hb.size; simpa using this
    have HR1 := Lib.hid (HR.out.below hb)
    go_wp2_with fail
    refine (sizeS_c _ _ _ _).mono ?_
    rintro e w' ⟨rfl, rfl⟩
    go_wp2_with fail
    refine (filledSquare_c w1 (n : Int) n 84 #[.pointer (some ⟨w.heap.size, 0, none⟩)] (fun x y => entry h y x) eg.out (by omega) (by omega) (fun W x y hx hy hBW =>
      turnAt_c W w.heap.size A n c R (entry h) x y hx hy (by omega) ((hBW.cell (p := ⟨w.heap.size, 0, none⟩) (by show w.heap.size < _; omega)).trans hcb) (HR1.out.below hBW))).mono ?_
    rintro e w2 ⟨⟨A2, n2, c2, R2, rfl, hn2', ho2⟩, hb2⟩
    have HL := Lib.hid hn2'
    have HO := Lib.hid (ho2.lower (lo' := w.heap.size) (by omega))
    have hB : Below w.heap.size w w2 := (hB0.trans (hb.mono (by simp))).trans (hb2.mono (by omega))
    clear hn2' ho2
    go_wp2
    go_ret2
    exact ⟨⟨A2, n2, c2, R2, rfl, HL.out, HO.out⟩, hB⟩

theorem TransposeHadamard_small (h : List (List Int)) : (turnM h).length ≤ 1048576 ∧ tot (turnM h) ≤ 1048576 := by
  unfold turnM
  split
  · next hv =>
    have := (validB_iff.1 hv).1
    rw [length_sqTo, tot_sqTo]
    exact ⟨by omega, Nat.le_trans (Nat.mul_le_mul this.2 this.2) (by omega)⟩
  · simp [tot]
end Go.Proofs.Ytjoihaghoahnlaa
