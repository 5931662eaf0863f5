/-
  ValidSquare of the program. Conditions: those of each theorem.
-/
import Derived.Test.YthgbfgdnljgicaaSqr
import Derived.Deep.RegionHeld3
namespace Go.Proofs.Ythgbfgdnljgicaa
open Go.RowKit
set_option linter.unusedVariables false
set_option linter.unusedSimpArgs false

def npB (n : Nat) (p : List Int) : Bool := !(decide (p.length = n) && permB p)

set_option maxHeartbeats 4000000 in
theorem notPerm_c (W : World) (G n : Nat) (A : Option Addr) (m c : Nat) (p : List Int) (hr : RdI W A c p) (hm : p.length = m) (hz : m ≤ 1048576) (hcell : W.cell? ⟨G, 0, none⟩ = some (.int .i64 (n : Int))) :
    Calls Try.prog 57 #[.slice A m c, .pointer (some ⟨G, 0, none⟩)] W (PostV W (.bool (npB n p))) := by
  have hG : G < W.heap.size := cell_size hcell
  have HV := Lib.hid (ValidPermutation_c W.drew A m c p (hr.drewN 1) hm hz)
  by_cases hl : m = n
  rotate_left
  · rw [show npB n p = true by unfold npB; rw [decide_eq_false (by omega)]; rfl]
    have hd : ((m : Int) != (n : Int)) = true := by simp; omega
    have hd2 : ((m : Int) == (n : Int)) = false := by simp; omega
    clear hr hm hl
    go_enter Try.func57, Try.ntmps57
    go_wp2
    go_quiet ((go_at_call 58; exact quiet_n (sizeI_c _ _ _ _)))
    clear hcell
    go_wp2
    go_ret
    exact ⟨rfl, below_drewN (Below.refl _ _) nq⟩
  subst hl
  rw [show npB m p = !permB p by unfold npB; rw [decide_eq_true hm]; rfl]
  have hd : ((m : Int) != (m : Int)) = false := by simp
  generalize permB p = T at *
  have HB := Lib.hid (show Below W.heap.size W W.drew from (Below.refl W.heap.size W).drew)
  clear hr hm
  go_enter Try.func57, Try.ntmps57
  go_wp2
  go_region_held3 (fun w' => w'.cell? ⟨G, 0, none⟩ = some (.int .i64 (m : Int))) (first | exact hcell | exact (hb4.cell (p := ⟨G, 0, none⟩) hG).trans hcell)
    (first | (go_at_call 58; refine (sizeI_c _ _ _ _).mono ?_; rintro e w' ⟨rfl, rfl⟩) | (go_at_call 47; refine (HV.out).mono ?_; rintro e w4 ⟨rfl, hb4⟩))
  have HB4 := Lib.hid (HB.out.trans (hb4.mono (Nat.le_refl _)))
  clear hb4 hcell
  go_wp2
  go_ret
  exact ⟨rfl, HB4.out⟩

set_option maxHeartbeats 4000000 in
theorem arePerms_c (w : World) (A : Option Addr) (n c : Nat) (R : Spine) (a : List (List Int)) (hr : RdM w A c R a) (hn : a.length = n) (hz : ∀ k, k < a.length → (row a k).length ≤ 1048576) :
    Calls Try.prog 46 #[.int .i64 (n : Int), .slice A n c] w (PostV w (.bool (decide (rwsOk a a.length)))) := by
  have hB0 : Below w.heap.size w (w.alloc (.cells #[.int .i64 (n : Int)] 2)) := (Below.refl _ _).alloc (Nat.le_refl _) _
  have hmf : ∀ (fn : Fn) (first cap : Array Value) (w : World), (Instr.makeFunc fn first cap).run Try.prog w = .ok (.func fn first cap) w := fun _ _ _ _ => rfl
  have HX := Lib.hid (show (w.alloc (.cells #[.int .i64 (n : Int)] 2)).cell? ⟨w.heap.size, 0, none⟩ = some (.int .i64 (n : Int)) from World.cell?_alloc_at _ _ _ _ rfl)
  have hrb := hr.below hB0
  have eg := enters_of Try.func57 (by kernel_rfl) rfl
  have HC := Lib.hid (containsFuncM (w.alloc (.cells #[.int .i64 (n : Int)] 2)) A n c R a 57 #[.pointer (some ⟨w.heap.size, 0, none⟩)] (fun k => npB n (row a k)) eg hrb hn (fun W k hk hBW =>
    notPerm_c W w.heap.size n _ _ _ (row a k) ((hrb.rows k (by omega)).keep hBW.size fun _ hp => hBW.cell hp) rfl (hz k (by omega)) ((hBW.cell (p := ⟨w.heap.size, 0, none⟩) (by simp)).trans HX.out)))
  have HF := Lib.hid (show decide (rwsOk a a.length) = !anyTo (fun k => npB n (row a k)) n by
    rcases ha : anyTo (fun k => npB n (row a k)) n with _ | _
    · refine decide_eq_true fun k hk => ?_
      have := (anyTo_false.1 ha) k (by omega)
      unfold npB at this
      rw [Bool.not_eq_false', Bool.and_eq_true, decide_eq_true_eq] at this
      exact ⟨by rw [this.1, hn], this.2⟩
    · obtain ⟨k, hk, hb⟩ := anyTo_true.1 ha
      refine decide_eq_false (fun h => ?_)
      have := h k (by omega)
      unfold npB at hb
      rw [decide_eq_true (show (row a k).length = n by rw [this.1, hn]), this.2] at hb
      cases hb)
  rw [HF.out]
  generalize anyTo (fun k => npB n (row a k)) n = q at *
  clear hr hn hrb eg HF HX hz
  go_enter Try.func46, Try.ntmps46
  go_wp2_with fail
  refine (HC.out).mono ?_
  rintro e w2 ⟨rfl, hb2⟩
  have hB := hB0.trans (hb2.mono (by simp))
  go_wp2
  go_ret
  exact ⟨rfl, hB⟩

set_option maxRecDepth 100000 in
set_option maxHeartbeats 8000000 in
theorem ValidSquare_c (w : World) (A : Option Addr) (n c : Nat) (R : Spine) (a : List (List Int)) (hr : RdM w A c R a) (hn : a.length = n) (hz : ∀ k, k < a.length → (row a k).length ≤ 1048576) :
    Calls Try.prog 34 #[.slice A n c] w (PostV w (.bool (sqB a))) := by
  have hIn := fun W => within_c (n : Int) 1 10 W
  have hP := arePerms_c w A n c R a hr hn hz
  obtain ⟨T, hT⟩ : ∃ T, T = sqB a := ⟨_, rfl⟩
  rw [← hT]
  have HT := Lib.hid hT
  have HR := Lib.hid hr
  have HN := Lib.hid hn
  clear hr hn hT hz
  rcases hi : inB (n : Int) 1 10 with _ | _
  · simp only [hi] at hIn
    have HIn := Lib.hid hIn
    have HF := Lib.hid (show T = false by
      rw [HT.out]
      refine decide_eq_false (fun h => ?_)
      have := inB_false.1 hi
      have := HN.out
      omega)
    clear hIn hi hP
    go_enter Try.func34, Try.ntmps34
    go_wp2_with fail
    refine (sizeS_c _ _ _ _).mono ?_
    rintro e w' ⟨rfl, rfl⟩
    go_wp2_with fail
    refine (HIn.out _).mono ?_
    rintro e w' ⟨rfl, rfl⟩
    go_wp2
    go_ret
    exact ⟨ret_b HF.out.symm, Below.refl _ _⟩
  simp only [hi] at hIn
  have HIn := Lib.hid hIn
  have h10 := inB_true.1 hi
  have hn10 : n ≤ 10 := by omega
  have hn1 : 1 ≤ n := by omega
  by_cases hp : rwsOk a a.length
  rotate_left
  · rw [decide_eq_false hp] at hP
    have HP := Lib.hid hP
    have HF := Lib.hid (show T = false by rw [HT.out]; exact decide_eq_false (fun h => hp h.2.1))
    clear hIn hi hP hp
    go_enter Try.func34, Try.ntmps34
    go_wp2_with fail
    refine (sizeS_c _ _ _ _).mono ?_
    rintro e w' ⟨rfl, rfl⟩
    go_wp2_with fail
    refine (HIn.out _).mono ?_
    rintro e w' ⟨rfl, rfl⟩
    go_wp2_with fail
    refine (HP.out).mono ?_
    rintro e w2 ⟨rfl, hb2⟩
    go_wp2
    go_ret
    exact ⟨ret_b HF.out.symm, hb2⟩
  rw [decide_eq_true hp] at hP
  have HP := Lib.hid hP
  have HE := Lib.hid hp
  clear hIn hi hP hp
  go_enter Try.func34, Try.ntmps34
  go_wp2_with fail
  refine (sizeS_c _ _ _ _).mono ?_
  rintro e w' ⟨rfl, rfl⟩
  go_wp2_with fail
  refine (HIn.out _).mono ?_
  rintro e w' ⟨rfl, rfl⟩
  go_wp2_with fail
  refine (HP.out).mono ?_
  rintro e w2 ⟨rfl, hb2⟩
  have HB2 := Lib.hid hb2
  clear hb2
  go_wp2
  go_loopw [20] (fun v wr => ∃ y : Nat, y ≤ n ∧ v = .int .i64 y ∧ Hid (clsOk a y) ∧ Hid (Below w.heap.size w wr)) (fun v _ => n - (intOf v).toNat)
  case atStart => exact ⟨0, Nat.zero_le _, rfl, Lib.hid (fun j hj => absurd hj (by omega)), HB2⟩
  case round =>
    obtain ⟨y, hy, rfl, HC, HB3⟩ := hrel
    by_cases hyk : y < n
    · have HI0 := Lib.hid (OwnI.nil_ wr wr.heap.size)
      have HIb := Lib.hid (Below.refl wr.heap.size wr)
      obtain ⟨wp, rfl⟩ : ∃ wp, wp = wr := ⟨_, rfl⟩
      go_wp2
      go_loopw [5, 25] (fun o v wr => ∃ (x : Nat) (A5 : Option Addr) (c5 : Nat), x ≤ n ∧ v = .int .i64 x ∧ o = .slice A5 x c5 ∧ Hid (OwnI wr wp.heap.size A5 c5 (colTo a y x)) ∧ Hid (Below wp.heap.size wp wr)) (fun _ v _ => n - (intOf v).toNat)
      case atStart => exact ⟨0, _, _, Nat.zero_le _, rfl, rfl, HI0, HIb⟩
      case round =>
        obtain ⟨x, A5, c5, hx, rfl, rfl, HO5, HB5⟩ := hrel
        have hsz5 := HB5.out.size
        have HBx := Lib.hid (HB3.out.trans (HB5.out.mono HB3.out.size))
        by_cases hxk : x < n
        · have hxl : x < a.length := by rw [HN.out]; exact hxk
          obtain ⟨b, off, e, hb, hc⟩ := HR.out.at_ x hxl
          have hrow := (HE.out x hxl).1
          obtain ⟨b2, off2, e2, hb2, hc2⟩ := (HR.out.rows x hxl).at_ y (by rw [hrow, HN.out]; exact hyk)
          have hcc := (HBx.out.cell (p := ⟨b, off + x, none⟩) hb).trans hc
          have hcc2 := (HBx.out.cell (p := ⟨b2, off2 + y, none⟩) hb2).trans hc2
          rw [hrow, HN.out, e2] at hcc
          have hx0 : (0 : Int) ≤ (x : Int) := by omega
          have hx2 : (x : Int) < (n : Int) := by omega
          have hy0 : (0 : Int) ≤ (y : Int) := by omega
          have hy2 : (y : Int) < (n : Int) := by omega
          have HSu := Lib.hid (show colTo a y x ++ [nth (row a x) y] = colTo a y (x + 1) from (colTo_succ a y x).symm)
          have HLx := Lib.hid (colTo_len a y x)
          have HA4 := Lib.hid e
          rw [HA4.out]
          clear hc hc2 hrow hb hb2 e e2
          generalize nth (row a x) y = z at *
          go_wp2_with (at_builtin; refine wpI_append rfl _ _ rfl wp.heap.size _ _ _ (colTo a y x) (z) wr.heap.size rfl rfl HLx.out (HO5.out.alloc (.cells #[.int .i64 (z)] 2)) (World.cell?_alloc_at _ _ _ _ rfl) (by omega) (by simp; omega) ?_; intro A3 c3 w3 ho3 hg3 ha3)
          have hB3 : Below wp.heap.size wp w3 := (HB5.out.alloc HB5.out.size (.cells #[.int .i64 (z)] 2)).trans (below_blk (HO5.out.alloc (.cells #[.int .i64 (z)] 2)) hg3 (Nat.le_refl _) (by simp; omega))
          have HO3 := Lib.hid ho3
          have HB3 := Lib.hid hB3
          clear ho3 hg3 ha3 hB3
          have HO6 := Lib.hid (show OwnI w3 wp.heap.size A3 c3 (colTo a y (x + 1)) from by rw [← HSu.out]; exact HO3.out)
          clear hcc hcc2
          go_wp2
          go_roundw
          case rel => exact ⟨x + 1, A3, c3, by omega, by go_num, rfl, HO6, HB3⟩
          case measure => simp [intOf]; omega
        · obtain rfl : x = n := by omega
          have HPe := Lib.hid (ValidPermutation_c wr A5 x c5 (colTo a y x) HO5.out.rd (colTo_len a y x) (by omega))
          rcases hpp : permB (colTo a y x) with _ | _
          · rw [hpp] at HPe
            have HF := Lib.hid (show T = false by
              rw [HT.out]
              refine decide_eq_false (fun h => ?_)
              have := h.2.2 y (by rw [HN.out]; exact hyk)
              rw [HN.out, hpp] at this; cases this)
            clear hpp
            go_wp2_with fail
            refine (HPe.out).mono ?_
            rintro e w' ⟨rfl, hb7⟩
            have HBz := Lib.hid (HBx.out.trans (hb7.mono HBx.out.size))
            go_wp2
            go_ret
            exact ⟨ret_b HF.out.symm, HBz.out⟩
          · rw [hpp] at HPe
            have HC' := Lib.hid (show clsOk a (y + 1) from fun j hj => by
              by_cases e : j = y
              · subst e; rw [HN.out]; exact hpp
              · exact HC.out j (by omega))
            clear hpp
            go_wp2_with fail
            refine (HPe.out).mono ?_
            rintro e w' ⟨rfl, hb7⟩
            have HBz := Lib.hid (HBx.out.trans (hb7.mono HBx.out.size))
            clear hb7
            go_wp2
            go_roundw
            case rel => exact ⟨y + 1, by omega, by go_num, HC', HBz⟩
            case measure => simp [intOf]; omega
    · obtain rfl : y = n := by omega
      have HF := Lib.hid (show T = true by rw [HT.out]; exact decide_eq_true ⟨by rw [HN.out]; omega, HE.out, by rw [HN.out]; exact HC.out⟩)
      go_wp2
      go_ret
      exact ⟨ret_b HF.out.symm, HB3.out⟩
end Go.Proofs.Ythgbfgdnljgicaa
