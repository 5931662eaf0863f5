/-
  Latin squares: l06Ok of the reference, ValidSquare of the program. Conditions: those of each theorem.
-/
import Derived.Test.YthgbfgdnljgicaaPrm
namespace Go.Proofs.Ythgbfgdnljgicaa
open Go.RowKit
set_option linter.unusedVariables false
set_option linter.unusedSimpArgs false

def colF (a : List (List Int)) (y : Nat) (x : Nat) : Int := nth (row a x) y
def colTo (a : List (List Int)) (y k : Nat) : List Int := (List.range k).map (colF a y)
theorem colTo_len (a : List (List Int)) (y k : Nat) : (colTo a y k).length = k := by simp [colTo]
theorem colTo_succ (a : List (List Int)) (y k : Nat) : colTo a y (k + 1) = colTo a y k ++ [colF a y k] := by simp [colTo, List.range_succ]
def rwsOk (a : List (List Int)) (k : Nat) : Prop := ∀ x, x < k → (row a x).length = a.length ∧ permB (row a x) = true
def clsOk (a : List (List Int)) (k : Nat) : Prop := ∀ y, y < k → permB (colTo a y a.length) = true
instance (a : List (List Int)) (k : Nat) : Decidable (rwsOk a k) := by unfold rwsOk; infer_instance
instance (a : List (List Int)) (k : Nat) : Decidable (clsOk a k) := by unfold clsOk; infer_instance
def sqB (a : List (List Int)) : Bool := decide ((1 ≤ a.length ∧ a.length ≤ 10) ∧ rwsOk a a.length ∧ clsOk a a.length)

set_option maxRecDepth 100000 in
set_option maxHeartbeats 8000000 in
theorem l06Ok_c (w : World) (A : Option Addr) (n c : Nat) (R : Spine) (a : List (List Int)) (hr : RdM w A c R a) (hn : a.length = n) :
    Calls Try.prog 29 #[.slice A n c] w (PostV w (.bool (sqB a))) := by
  have hn64 : n ≤ 9223372036854775807 := by have h1 := hr.le; have h2 := hr.cap; unfold maxLen at h2; omega
  have hrl : ∀ k, k < a.length → (row a k).length ≤ 9223372036854775807 := fun k hk => by have h1 := (hr.rows k hk).le; have h2 := (hr.rows k hk).cap; unfold maxLen at h2; omega
  obtain ⟨T, hT⟩ : ∃ T, T = sqB a := ⟨_, rfl⟩
  rw [← hT]
  have HT := Lib.hid hT
  have HR := Lib.hid hr
  have HN := Lib.hid hn
  have HRl := Lib.hid hrl
  clear hr hn hT hrl
  by_cases h1 : n < 1
  · have hd : decide ((n : Int) < 1) = true := by simp; omega
    have hd2 : (n : Int) < 1 := by omega
    have HF := Lib.hid (show T = false by rw [HT.out]; exact decide_eq_false (fun h => by have := HN.out; omega))
    clear h1
    go_enter Try.func29, Try.ntmps29
    go_wp2
    go_ret
    exact ⟨ret_b HF.out.symm, Below.refl _ _⟩
  have hd : decide ((n : Int) < 1) = false := by simp; omega
  by_cases h10 : n ≤ 10
  rotate_left
  · have hd3 : decide ((10 : Int) < (n : Int)) = true := by simp; omega
    have hd2 : (10 : Int) < (n : Int) := by omega
    have HF := Lib.hid (show T = false by rw [HT.out]; exact decide_eq_false (fun h => by have := HN.out; omega))
    clear h1 h10
    go_enter Try.func29, Try.ntmps29
    go_wp2
    go_ret
    exact ⟨ret_b HF.out.symm, Below.refl _ _⟩
  have hd3 : decide ((10 : Int) < (n : Int)) = false := by simp; omega
  go_enter Try.func29, Try.ntmps29
  go_wp2
  go_loopw [4] (fun v wr => ∃ k : Nat, k ≤ n ∧ v = .int .i64 k ∧ Hid (rwsOk a k) ∧ Qt w wr) (fun v _ => n - (intOf v).toNat)
  case atStart => exact ⟨0, Nat.zero_le _, rfl, Lib.hid (fun j hj => absurd hj (by omega)), Qt.refl _⟩
  case round =>
    obtain ⟨k, hk, rfl, HE, hqt⟩ := hrel
    obtain ⟨m0, hm0⟩ := hqt
    have HQ := Lib.hid hm0
    have HRw := Lib.hid (show RdM wr A c R a by rw [hm0]; exact HR.out.drewN m0)
    clear hm0
    by_cases hlt : k < n
    · have hkx : k < a.length := by rw [HN.out]; exact hlt
      obtain ⟨b, off, e, hb, hc⟩ := HRw.out.at_ k hkx
      subst e
      have hk1 : (0 : Int) ≤ (k : Int) := by omega
      have hk2 : (k : Int) < (n : Int) := by omega
      have hlk := HRl.out k hkx
      have HPe := Lib.hid (l04Ok_c wr (R k).1 (row a k).length (R k).2 (row a k) (HRw.out.rows k hkx) rfl)
      obtain ⟨l, hl⟩ : ∃ l, l = (row a k).length := ⟨_, rfl⟩
      rw [← hl] at hc hlk HPe
      have HL := Lib.hid hl
      clear hb hl
      by_cases hln : l = n
      rotate_left
      · have hd4 : ((l : Int) != (n : Int)) = true := by simp; omega
        have hd5 : ((l : Int) == (n : Int)) = false := by simp; omega
        have HF := Lib.hid (show T = false by
          rw [HT.out]
          refine decide_eq_false (fun h => hln ?_)
          rw [HL.out, (h.2.1 k hkx).1, HN.out])
        clear hln
        go_wp2
        go_ret
        exact ⟨ret_b HF.out.symm, by rw [HQ.out]; exact below_drewN (Below.refl _ _) m0⟩
      subst hln
      have hd4 : ((l : Int) != (l : Int)) = false := by simp
      rcases hp : permB (row a k) with _ | _
      · rw [hp] at HPe
        have HF := Lib.hid (show T = false by
          rw [HT.out]
          refine decide_eq_false (fun h => ?_)
          have := (h.2.1 k hkx).2
          rw [hp] at this; cases this)
        clear hp
        go_wp2_with fail
        refine (HPe.out).mono ?_
        rintro e w' ⟨rfl, z, rfl⟩
        go_wp2
        go_ret
        exact ⟨ret_b HF.out.symm, by rw [HQ.out, World.drewN_drewN]; exact below_drewN (Below.refl _ _) _⟩
      · rw [hp] at HPe
        have HE' := Lib.hid (show rwsOk a (k + 1) from fun x hx => by
          by_cases e : x = k
          · subst e; exact ⟨by rw [← HL.out, HN.out], hp⟩
          · exact HE.out x (by omega))
        clear hp
        go_wp2_with fail
        refine (HPe.out).mono ?_
        rintro e w' ⟨rfl, z, rfl⟩
        go_wp2
        go_roundw
        case rel => exact ⟨k + 1, by omega, by go_num, HE', m0 + z, by rw [HQ.out, World.drewN_drewN]⟩
        case measure => simp [intOf]; omega
    · obtain rfl : k = n := by omega
      have HBw := Lib.hid (show Below w.heap.size w wr by rw [HQ.out]; exact below_drewN (Below.refl _ _) m0)
      obtain ⟨wo, rfl⟩ : ∃ wo, wo = wr := ⟨_, rfl⟩
      go_wp2
      go_loopw [5, 6, 7] (fun v _ _ wr => ∃ y : Nat, y ≤ k ∧ v = .int .i64 y ∧ Hid (clsOk a y) ∧ Hid (Below w.heap.size w wr)) (fun v _ _ _ => k - (intOf v).toNat)
      case atStart => exact ⟨0, Nat.zero_le _, rfl, Lib.hid (fun j hj => absurd hj (by omega)), HBw⟩
      case round =>
        obtain ⟨y, hy, rfl, HC, HB3⟩ := hrel
        by_cases hyk : y < k
        · have HI0 := Lib.hid (OwnI.lit0 wr (Nat.le_refl wr.heap.size))
          have HIb := Lib.hid ((Below.refl wr.heap.size wr).alloc (Nat.le_refl _) (.cells #[] 2))
          obtain ⟨wp, rfl⟩ : ∃ wp, wp = wr := ⟨_, rfl⟩
          go_wp2
          go_loopw [6, 7] (fun o v wr => ∃ (x : Nat) (A5 : Option Addr) (c5 : Nat), x ≤ k ∧ v = .int .i64 x ∧ o = .slice A5 x c5 ∧ Hid (OwnI wr wp.heap.size A5 c5 (colTo a y x)) ∧ Hid (Below wp.heap.size wp wr)) (fun _ v _ => k - (intOf v).toNat)
          case atStart => exact ⟨0, _, _, Nat.zero_le _, rfl, rfl, HI0, HIb⟩
          case round =>
            obtain ⟨x, A5, c5, hx, rfl, rfl, HO5, HB5⟩ := hrel
            have hsz5 := HB5.out.size
            have HBx := Lib.hid (HB3.out.trans (HB5.out.mono HB3.out.size))
            by_cases hxk : x < k
            · have hxl : x < a.length := by rw [HN.out]; exact hxk
              obtain ⟨b, off, e, hb, hc⟩ := HR.out.at_ x hxl
              have hrow := (HE.out x hxk).1
              obtain ⟨b2, off2, e2, hb2, hc2⟩ := (HR.out.rows x hxl).at_ y (by rw [hrow, HN.out]; exact hyk)
              have hcc := (HBx.out.cell (p := ⟨b, off + x, none⟩) hb).trans hc
              have hcc2 := (HBx.out.cell (p := ⟨b2, off2 + y, none⟩) hb2).trans hc2
              rw [hrow, HN.out, e2] at hcc
              have hx0 : (0 : Int) ≤ (x : Int) := by omega
              have hx2 : (x : Int) < (k : Int) := by omega
              have hy0 : (0 : Int) ≤ (y : Int) := by omega
              have hy2 : (y : Int) < (k : Int) := by omega
              have HSu := Lib.hid (show colTo a y x ++ [nth (row a x) y] = colTo a y (x + 1) from (colTo_succ a y x).symm)
              have HLx := Lib.hid (colTo_len a y x)
              have HA4 := Lib.hid e
              rw [HA4.out]
              clear hc hc2 hrow hb hb2 e e2
              generalize nth (row a x) y = z at *
              go_wp2_with (at_builtin; refine wpI_append rfl _ _ rfl wp.heap.size _ _ _ (colTo a y x) (z) wr.heap.size rfl rfl HLx.out (HO5.out.alloc (.cells #[.int .i64 (z)] 2)) (World.cell?_alloc_at _ _ _ _ rfl) (by omega) (by simp; omega) ?_; intro A3 c3 w3 ho3 hg3 ha3)
              have hB3 : Below wp.heap.size wp w3 := (HB5.out.alloc HB5.out.size (.cells #[.int .i64 (z)] 2)).trans (below_blk (HO5.out.alloc (.cells #[.int .i64 (z)] 2)) hg3 (Nat.le_refl _) (by simp; omega))
              have HO3 := Lib.hid ho3
              have HB3 := Lib.hid hB3
              clear ho3 hg3 ha3 hB3
              have HO6 := Lib.hid (show OwnI w3 wp.heap.size A3 c3 (colTo a y (x + 1)) from by rw [← HSu.out]; exact HO3.out)
              clear hcc hcc2
              go_wp2
              go_roundw
              case rel => exact ⟨x + 1, A3, c3, by omega, by go_num, rfl, HO6, HB3⟩
              case measure => simp [intOf]; omega
            · obtain rfl : x = k := by omega
              have HPe := Lib.hid (l04Ok_c wr A5 x c5 (colTo a y x) HO5.out.rd (colTo_len a y x))
              rcases hp : permB (colTo a y x) with _ | _
              · rw [hp] at HPe
                have HF := Lib.hid (show T = false by
                  rw [HT.out]
                  refine decide_eq_false (fun h => ?_)
                  have := h.2.2 y (by rw [HN.out]; exact hyk)
                  rw [HN.out, hp] at this; cases this)
                clear hp
                go_wp2_with fail
                refine (HPe.out).mono ?_
                rintro e w' ⟨rfl, z, rfl⟩
                have HBz := Lib.hid (below_drewN HBx.out z)
                go_wp2
                go_ret
                exact ⟨ret_b HF.out.symm, HBz.out⟩
              · rw [hp] at HPe
                have HC' := Lib.hid (show clsOk a (y + 1) from fun j hj => by
                  by_cases e : j = y
                  · subst e; rw [HN.out]; exact hp
                  · exact HC.out j (by omega))
                clear hp
                go_wp2_with fail
                refine (HPe.out).mono ?_
                rintro e w' ⟨rfl, z, rfl⟩
                have HBz := Lib.hid (below_drewN HBx.out z)
                go_wp2
                go_roundw
                case rel => exact ⟨y + 1, by omega, by go_num, HC', HBz⟩
                case measure => simp [intOf]; omega
        · obtain rfl : y = k := by omega
          have HF := Lib.hid (show T = true by rw [HT.out]; exact decide_eq_true ⟨by rw [HN.out]; omega, by rw [HN.out]; exact HE.out, by rw [HN.out]; exact HC.out⟩)
          go_wp2
          go_ret
          exact ⟨ret_b HF.out.symm, HB3.out⟩
end Go.Proofs.Ythgbfgdnljgicaa
