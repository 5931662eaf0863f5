/-
  Permutations and images of sets: l04Ok and l04Image of the reference, ValidPermutation and image of the program. Conditions: those of each theorem.
-/
import Derived.Test.YtmmkmkbpgcbehaaGreatRelP
import Derived.IntWalk
namespace Go.Proofs.YtmmkmkbpgcbehaaGreat
open Go.RowKit
set_option linter.unusedVariables false
set_option linter.unusedSimpArgs false

set_option maxHeartbeats 4000000 in
theorem image_c (w : World) (A B : Option Addr) (n m c d : Nat) (p bl : List Int) (hr : RdI w A c p) (hn : p.length = n) (hb : RdI w B d bl) (hm : bl.length = m) (hz : m ≤ 1000) (hin : ∀ k, k < m → 0 ≤ nth bl k ∧ nth bl k < (n : Int)) (he : imL p bl = sortL ((List.range m).map (imF p bl))) :
    Calls Tryz.prog 39 #[.slice A n c, .slice B m d] w (PostS w (imL p bl)) := by
  have HR := Lib.hid hr
  have HN := Lib.hid hn
  have HBl := Lib.hid hb
  have HM := Lib.hid hm
  have HIn := Lib.hid hin
  have HE := Lib.hid he
  have H0 := Lib.hid (OwnI.nil_ w w.heap.size)
  have HBz := Lib.hid (Below.refl w.heap.size w)
  clear hr hn hb hm hin he
  obtain ⟨F, hF⟩ : ∃ F : Nat → List Int, F = fun k => (List.range k).map (imF p bl) := ⟨_, rfl⟩
  have HF0 := Lib.hid (show F 0 = [] by rw [hF]; rfl)
  have HFs := Lib.hid (fun k => show F (k + 1) = F k ++ [imF p bl k] by rw [hF]; exact range_succ_map _ _)
  have HFl := Lib.hid (fun k => show (F k).length = k by rw [hF]; simp)
  have HFm := Lib.hid (show sortL (F m) = imL p bl by rw [HE.out, hF])
  clear hF HE
  rw [← HF0.out] at H0
  go_enter Tryz.func39, Tryz.ntmps39
  go_wp2
  go_loopw [5, 10] (fun o v wr => ∃ (k : Nat) (A' : Option Addr) (c' : Nat), k ≤ m ∧ v = .int .i64 k ∧ o = .slice A' k c' ∧ Hid (OwnI wr w.heap.size A' c' (F k)) ∧ Hid (Below w.heap.size w wr)) (fun _ v _ => m - (intOf v).toNat)
  case atStart => exact ⟨0, _, _, Nat.zero_le _, rfl, rfl, H0, HBz⟩
  case round =>
    obtain ⟨k, A', c', hk, rfl, rfl, HO, HB⟩ := hrel
    have hsz := HB.out.size
    by_cases hlt : k < m
    · have hkx : k < bl.length := by rw [HM.out]; exact hlt
      obtain ⟨b0, off, e, hb, hc⟩ := HBl.out.at_ k hkx
      subst e
      have hcc := (HB.out.cell (p := ⟨b0, off + k, none⟩) hb).trans hc
      obtain ⟨hx0, hx1⟩ := HIn.out k hlt
      obtain ⟨x, hx⟩ : ∃ x : Nat, nth bl k = (x : Int) := ⟨(nth bl k).toNat, by omega⟩
      have HF := Lib.hid (show imF p bl k = nth p x by unfold imF; rw [hx]; rfl)
      rw [hx] at hcc hx0 hx1
      have hxn : x < n := by omega
      obtain ⟨b1, off1, e1, hb1, hc1⟩ := HR.out.at_ x (by rw [HN.out]; exact hxn)
      subst e1
      have hcc1 := (HB.out.cell (p := ⟨b1, off1 + x, none⟩) hb1).trans hc1
      have HSu := Lib.hid (show F k ++ [nth p x] = F (k + 1) by rw [HFs.out, HF.out])
      have HLk := Lib.hid (HFl.out k)
      clear hc hx hc1
      generalize nth p x = y at *
      go_wp2_with (at_builtin; refine wpI_append rfl _ _ rfl w.heap.size _ _ _ (F k) (y) wr.heap.size rfl rfl HLk.out (HO.out.alloc (.cells #[.int .i64 (y)] 2)) (World.cell?_alloc_at _ _ _ _ rfl) (by omega) (by simp; omega) ?_; intro A3 c3 w3 ho3 hg3 ha3)
      have hB3 : Below w.heap.size w w3 := (HB.out.alloc HB.out.size (.cells #[.int .i64 (y)] 2)).trans (below_blk (HO.out.alloc (.cells #[.int .i64 (y)] 2)) hg3 (Nat.le_refl _) (by simp; omega))
      have HO3 := Lib.hid ho3
      have HB3 := Lib.hid hB3
      clear ho3 hg3 ha3 hB3
      have HO4 := Lib.hid (show OwnI w3 w.heap.size A3 c3 (F (k + 1)) from by rw [← HSu.out]; exact HO3.out)
      go_wp2
      go_roundw
      case rel => exact ⟨k + 1, A3, c3, by omega, by go_num, rfl, HO4, HB3⟩
      case measure => simp [intOf]; omega
    · obtain rfl : k = m := by omega
      have HSo := Lib.hid (sort_c wr HO.out (HFl.out k) (by omega))
      have HL := Lib.hid (show (imL p bl).length = k by rw [← HFm.out, sortL_len]; exact HFl.out k)
      go_wp2_with fail
      refine (HSo.out).mono ?_
      rintro e w2 ⟨rfl, ho2, hg2⟩
      have HB2 := Lib.hid (HB.out.trans (below_blk HO.out hg2 (Nat.le_refl _) HB.out.size))
      have HO2 := Lib.hid (show OwnI w2 w.heap.size A' c' (imL p bl) from by rw [← HFm.out]; exact ho2)
      clear ho2 hg2
      go_wp2
      go_ret
      exact ⟨⟨A', k, c', rfl, HL.out, HO2.out⟩, HB2.out⟩
end Go.Proofs.YtmmkmkbpgcbehaaGreat
