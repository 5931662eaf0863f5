/-
  UnionSets of the reference. Conditions: those of each theorem.
-/
import Derived.Test.YtmmkmkbpgcbehaaGreatPswQ
import Derived.Test.YtmmkmkbpgcbehaaGreatGb
namespace Go.Proofs.YtmmkmkbpgcbehaaGreat
open Go.RowKit
set_option linter.unusedVariables false
set_option linter.unusedSimpArgs false

def uniP (xs ys : List Int) : Nat → List Int
  | 0 => xs
  | k + 1 => putL (uniP xs ys k) (nth ys k)
theorem uniP_rise {xs ys : List Int} (hx : xs.Pairwise (· < ·)) : ∀ k, (uniP xs ys k).Pairwise (· < ·)
  | 0 => hx
  | k + 1 => putL_rise (uniP_rise hx k)
theorem uniP_len (xs ys : List Int) : ∀ k, (uniP xs ys k).length ≤ xs.length + k
  | 0 => Nat.le_refl _
  | k + 1 => by
    have h1 := uniP_len xs ys k
    have h2 := putL_length (uniP xs ys k) (nth ys k)
    show (putL (uniP xs ys k) (nth ys k)).length ≤ _
    omega
theorem uniP_mem {xs ys : List Int} {z : Int} : ∀ k, k ≤ ys.length → (z ∈ uniP xs ys k ↔ z ∈ xs ∨ z ∈ ys.take k)
  | 0, _ => by simp [uniP]
  | k + 1, hk => by
    show z ∈ putL (uniP xs ys k) (nth ys k) ↔ _
    rw [putL_mem, uniP_mem k (by omega), take_nth (by omega), List.mem_append, List.mem_singleton]
    constructor
    · rintro (h | h | h)
      · exact .inr (.inr h)
      · exact .inl h
      · exact .inr (.inl h)
    · rintro (h | h | h)
      · exact .inr (.inl h)
      · exact .inr (.inr h)
      · exact .inl h
theorem uniP_all {xs ys : List Int} (hx : setB xs 32 = true) (hy : setB ys 32 = true) : uniP xs ys ys.length = unionL xs ys :=
  rise_ext (uniP_rise (setB_iff.1 hx).1 _) (setB_iff.1 (unionQ_set hx hy)).1 (fun z => by rw [uniP_mem _ (Nat.le_refl _), mem_unionQ hx hy, List.take_length])

set_option maxHeartbeats 4000000 in
theorem specUnionSets_c (w : World) (A B : Option Addr) (n m c d : Nat) (xs ys : List Int) (hx : RdI w A c xs) (hn : xs.length = n) (hy : RdI w B d ys) (hm : ys.length = m) (hA : A = none → c = 0) (h1 : setB xs 32 = true) (h2 : setB ys 32 = true) :
    Calls Tryz.prog 28 #[.slice A n c, .slice B m d] w (PostS w (unionL xs ys)) := by
  have hn32 : n ≤ 32 := by have := setB_len (P := 32) h1; omega
  have hm32 : m ≤ 32 := by have := setB_len (P := 32) h2; omega
  have hSa := l01Set_c w A n c xs hx hn
  have HSb := Lib.hid (fun (k : Nat) => (show Calls Tryz.prog 61 #[.slice B m d] (w.drewN k) (EndQ (.bool true) (w.drewN k)) from by
    have := l01Set_c (w.drewN k) B m d ys (hy.drewN k) hm
    rwa [h2] at this))
  rw [h1] at hSa
  have HSa := Lib.hid hSa
  have HOw := Lib.hid (fun (k : Nat) => l00Own_c (w.drewN k) A n c xs (hx.drewN k) hn hA (by omega))
  have HY := Lib.hid hy
  have HM := Lib.hid hm
  have HAll := Lib.hid (show uniP xs ys m = unionL xs ys from by rw [← hm]; exact uniP_all h1 h2)
  have HLe := Lib.hid (fun (k : Nat) (hk : k ≤ m) => (show (uniP xs ys k).length ≤ 64 from by have := uniP_len xs ys k; omega))
  clear hx hn hy hm h1 h2 hSa hA
  go_enter Tryz.func28, Tryz.ntmps28
  go_wp2_with fail
  refine (HSa.out).mono ?_
  rintro e w2 ⟨rfl, q1, rfl⟩
  go_wp2_with fail
  refine (HSb.out _).mono ?_
  rintro e w3 ⟨rfl, q2, rfl⟩
  rw [World.drewN_drewN]
  go_wp2_with fail
  refine (HOw.out _).mono ?_
  rintro e w4 ⟨⟨A4, n4, c4, rfl, hn4, ho4⟩, hb4⟩
  have HB4 := Lib.hid (show Below w.heap.size w w4 from (below_drewN (Below.refl _ _) (q1 + q2)).trans hb4)
  have HO4 := Lib.hid (show OwnI w4 w.heap.size A4 c4 (uniP xs ys 0) from ho4)
  have HN4 := Lib.hid (show (uniP xs ys 0).length = n4 from hn4)
  clear hn4 ho4 hb4
  go_wp2
  go_loopw [5, 6] (fun o v wr => ∃ (k s c' : Nat) (A' : Option Addr), k ≤ m ∧ v = .int .i64 k ∧ o = .slice A' s c' ∧ Hid ((uniP xs ys k).length = s) ∧ Hid (OwnI wr w.heap.size A' c' (uniP xs ys k)) ∧ Hid (Below w.heap.size w wr)) (fun _ v _ => m - (intOf v).toNat)
  case atStart => exact ⟨0, n4, c4, A4, Nat.zero_le _, rfl, rfl, HN4, HO4, HB4⟩
  case round =>
    obtain ⟨k, s, c', A', hk, rfl, rfl, HS, HO, HB⟩ := hrel
    by_cases hkm : k < m
    · have hky : k < ys.length := by rw [HM.out]; exact hkm
      obtain ⟨b, off, e, hb, hc⟩ := HY.out.at_ k hky
      subst e
      have hc' := (HB.out.cell (p := ⟨b, off + k, none⟩) hb).trans hc
      have hsz := HB.out.size
      have hs64 : s ≤ 64 := by rw [← HS.out]; exact HLe.out k hk
      have HPu := Lib.hid (l00Put_c wr A' s c' (uniP xs ys k) (nth ys k) HO.out.rd HS.out (by omega))
      have hk0 : (0 : Int) ≤ (k : Int) := by omega
      have hk1 : (k : Int) < (m : Int) := by omega
      clear hc
      go_wp2_with fail
      refine (HPu.out).mono ?_
      rintro e w5 ⟨⟨A5, n5, c5, rfl, hn5, ho5⟩, hb5⟩
      have HB5 := Lib.hid (HB.out.trans (hb5.mono hsz))
      have HO5 := Lib.hid (show OwnI w5 w.heap.size A5 c5 (uniP xs ys (k + 1)) from ho5.lower hsz)
      have HN5 := Lib.hid (show (uniP xs ys (k + 1)).length = n5 from hn5)
      clear hn5 ho5 hb5 hc'
      go_wp2
      go_roundw
      case rel => exact ⟨k + 1, n5, c5, A5, by omega, by go_num, rfl, HN5, HO5, HB5⟩
      case measure => simp [intOf]; omega
    · obtain rfl : k = m := by omega
      go_wp2
      go_ret
      exact ⟨⟨A', s, c', rfl, by rw [← HAll.out]; exact HS.out, by rw [← HAll.out]; exact HO.out⟩, HB.out⟩
end Go.Proofs.YtmmkmkbpgcbehaaGreat
