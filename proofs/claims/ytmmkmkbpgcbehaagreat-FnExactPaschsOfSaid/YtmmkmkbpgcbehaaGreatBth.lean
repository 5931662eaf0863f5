/-
  MeetSets, MinusSets and l10All of the reference, allPoints of the program. Conditions: those of each theorem.
-/
import Derived.Test.YtmmkmkbpgcbehaaGreatPairsP
import Derived.Test.YtmmkmkbpgcbehaaGreatIdn
import Derived.Test.YtmmkmkbpgcbehaaGreatLawKit
namespace Go.Proofs.YtmmkmkbpgcbehaaGreat
open Go.RowKit
set_option linter.unusedVariables false
set_option linter.unusedSimpArgs false

theorem l01Set_c (w : World) (A : Option Addr) (n c : Nat) (xs : List Int) (hr : RdI w A c xs) (hn : xs.length = n) :
    Calls Tryz.prog 61 #[.slice A n c] w (EndQ (.bool (setB xs 32)) w) := by
  rw [setB_rise (by omega) (by omega), show (32 : Int) - 1 = 31 by omega]
  have HV := Lib.hid (rises_c w A n c xs 0 31 hr hn)
  clear hr hn
  go_enter Tryz.func61, Tryz.ntmps61
  go_wp2_with fail
  refine (HV.out).mono ?_
  rintro e w' ⟨rfl, m, rfl⟩
  go_wp2
  go_ret
  exact ⟨rfl, m, rfl⟩

/-- The first k numbers that pass. -/
def fiTo (f : Int → Bool) (xs : List Int) (k : Nat) : List Int := (xs.take k).filter f
theorem fiTo_succ {f : Int → Bool} {xs : List Int} {k : Nat} (hk : k < xs.length) : fiTo f xs (k + 1) = fiTo f xs k ++ if f (nth xs k) = true then [nth xs k] else [] := by
  unfold fiTo
  rw [List.take_add_one, List.getElem?_eq_getElem hk, List.filter_append, nth_eq hk]
  by_cases h : f xs[k] = true <;> simp [List.filter_cons, h]
theorem fiTo_len (f : Int → Bool) (xs : List Int) (k : Nat) : (fiTo f xs k).length ≤ k := by
  have h1 : (fiTo f xs k).length ≤ (xs.take k).length := List.length_filter_le _ _
  have h2 : (xs.take k).length ≤ k := List.length_take_le _ _
  omega
theorem fiTo_all (f : Int → Bool) (xs : List Int) : fiTo f xs xs.length = xs.filter f := by unfold fiTo; rw [List.take_length]

set_option maxRecDepth 100000 in
set_option maxHeartbeats 4000000 in
theorem l01Both_c (w : World) (A B : Option Addr) (n m c d : Nat) (xs ys : List Int) (hx : RdI w A c xs) (hn : xs.length = n) (hy : RdI w B d ys) (hm : ys.length = m) (h1 : setB xs 32 = true) (h2 : setB ys 32 = true) (b : Bool) :
    Calls Tryz.prog 63 #[.slice A n c, .slice B m d, .bool b] w (PostS w (xs.filter fun z => hasB ys z == b)) := by
  have hn32 : n ≤ 32 := by have := setB_len (P := 32) h1; omega
  have hA := l01Set_c w A n c xs hx hn
  have hB := fun q => l01Set_c (w.drewN q) B m d ys (hy.drewN q) hm
  rw [h1] at hA
  rw [h2] at hB
  have HX := Lib.hid hx
  have HN := Lib.hid hn
  have HHas := Lib.hid (fun (W : World) (hb : Below w.heap.size w W) (x : Int) => has_c W B m d ys x (hy.below hb) hm)
  obtain ⟨f, hf⟩ : ∃ f : Int → Bool, f = fun z => hasB ys z == b := ⟨_, rfl⟩
  have HF := Lib.hid hf
  rw [← hf]
  have HA := Lib.hid hA
  have HB' := Lib.hid hB
  clear hA hB hx hn hy hm h1 h2 hf
  go_enter Tryz.func63, Tryz.ntmps63
  go_wp2_with fail
  refine (HA.out).mono ?_
  rintro e w' ⟨rfl, q1, rfl⟩
  go_wp2_with fail
  refine (HB'.out _).mono ?_
  rintro e w' ⟨rfl, q2, rfl⟩
  rw [World.drewN_drewN]
  have H0 := Lib.hid (OwnI.lit0 (w.drewN (q1 + q2)) (Nat.le_refl w.heap.size))
  have HBz := Lib.hid ((below_drewN (Below.refl w.heap.size w) (q1 + q2)).alloc (Nat.le_refl _) (.cells #[] 2))
  generalize w.drewN (q1 + q2) = w2 at *
  go_wp2
  go_loopw [7, 8] (fun o v wr => ∃ (k s : Nat) (A' : Option Addr) (c' : Nat), k ≤ n ∧ v = .int .i64 k ∧ o = .slice A' s c' ∧ Hid ((fiTo f xs k).length = s) ∧ s ≤ k ∧ Hid (OwnI wr w.heap.size A' c' (fiTo f xs k)) ∧ Hid (Below w.heap.size w wr)) (fun _ v _ => n - (intOf v).toNat)
  case atStart => exact ⟨0, 0, _, _, Nat.zero_le _, rfl, rfl, Lib.hid rfl, Nat.le_refl _, H0, HBz⟩
  case round =>
    obtain ⟨k, s, A', c', hk, rfl, rfl, HS, hsk, HO, HB⟩ := hrel
    have hz := HB.out.size
    by_cases hlt : k < n
    · have hkx : k < xs.length := by rw [HN.out]; exact hlt
      obtain ⟨b0, off, e, hb, hc⟩ := HX.out.at_ k hkx
      subst e
      have hcc := (HB.out.cell (p := ⟨b0, off + k, none⟩) hb).trans hc
      have hSu := fiTo_succ (f := f) hkx
      have hH := HHas.out wr HB.out (nth xs k)
      have hfe : f (nth xs k) = (hasB ys (nth xs k) == b) := by rw [HF.out]
      clear hc
      rcases hv : (hasB ys (nth xs k) == b) with _ | _
      · rw [hfe, hv] at hSu
        simp only [Bool.false_eq_true, if_false, List.append_nil] at hSu
        have HSu := Lib.hid hSu
        have HH := Lib.hid hH
        clear hSu hH hfe
        generalize hasB ys (nth xs k) = p at *
        go_wp2_with fail
        refine (HH.out).mono ?_
        rintro e w' ⟨rfl, rfl⟩
        go_wp2
        go_roundw
        case rel => exact ⟨k + 1, s, A', c', by omega, by go_num, rfl, Lib.hid (by rw [HSu.out]; exact HS.out), by omega, Lib.hid (by rw [HSu.out]; exact HO.out), HB⟩
        case measure => simp [intOf]; omega
      · rw [hfe, hv] at hSu
        simp only [if_true] at hSu
        have HSu := Lib.hid hSu
        have HH := Lib.hid hH
        clear hSu hH hfe
        generalize hasB ys (nth xs k) = p at *
        generalize nth xs k = y at *
        go_wp2_with fail
        refine (HH.out).mono ?_
        rintro e w' ⟨rfl, rfl⟩
        go_wp2_with (at_builtin; refine wpI_append rfl _ _ rfl w.heap.size _ _ _ (fiTo f xs k) (y) wr.heap.size rfl rfl HS.out (HO.out.alloc (.cells #[.int .i64 (y)] 2)) (World.cell?_alloc_at _ _ _ _ rfl) (by omega) (by simp; omega) ?_; intro A3 c3 w3 ho3 hg3 ha3)
        have hB3 : Below w.heap.size w w3 := (HB.out.alloc HB.out.size (.cells #[.int .i64 (y)] 2)).trans (below_blk (HO.out.alloc (.cells #[.int .i64 (y)] 2)) hg3 (Nat.le_refl _) (by simp; omega))
        have HO3 := Lib.hid ho3
        have HB3 := Lib.hid hB3
        clear ho3 hg3 ha3 hB3
        have HS3 := Lib.hid (show (fiTo f xs (k + 1)).length = s + 1 from by rw [HSu.out, List.length_append, HS.out]; rfl)
        have HO4 := Lib.hid (show OwnI w3 w.heap.size A3 c3 (fiTo f xs (k + 1)) from by rw [HSu.out]; exact HO3.out)
        go_wp2
        go_roundw
        case rel => exact ⟨k + 1, s + 1, A3, c3, by omega, by go_num, rfl, HS3, by omega, HO4, HB3⟩
        case measure => simp [intOf]; omega
    · obtain rfl : k = n := by omega
      have HSf := Lib.hid (show (xs.filter f).length = s from by rw [← fiTo_all, HN.out]; exact HS.out)
      have HOf := Lib.hid (show OwnI wr w.heap.size A' c' (xs.filter f) from by rw [← fiTo_all, HN.out]; exact HO.out)
      go_wp2
      go_ret
      exact ⟨⟨A', s, c', rfl, HSf.out, HOf.out⟩, HB.out⟩

theorem specMeetSets_c (w : World) (A B : Option Addr) (n m c d : Nat) (xs ys : List Int) (hx : RdI w A c xs) (hn : xs.length = n) (hy : RdI w B d ys) (hm : ys.length = m) (h1 : setB xs 32 = true) (h2 : setB ys 32 = true) :
    Calls Tryz.prog 44 #[.slice A n c, .slice B m d] w (PostS w (meetL xs ys)) := by
  rw [meetL_eq' h1 h2]
  have HV := l01Both_c w A B n m c d xs ys hx hn hy hm h1 h2 true
  rw [show (xs.filter fun z => hasB ys z == true) = xs.filter (hasB ys) from List.filter_congr (fun z _ => by cases hasB ys z <;> rfl)] at HV
  have HV := Lib.hid HV
  clear hx hn hy hm h1 h2
  go_enter Tryz.func44, Tryz.ntmps44
  go_wp2_with fail
  refine (HV.out).mono ?_
  rintro e w1 ⟨⟨A, k, c, rfl, hk, ho⟩, hb⟩
  have HK := Lib.hid hk
  have HO := Lib.hid ho
  have HB := Lib.hid hb
  clear hk ho hb
  go_wp2
  go_ret
  exact ⟨⟨A, k, c, rfl, HK.out, HO.out⟩, HB.out⟩
theorem specMinusSets_c (w : World) (A B : Option Addr) (n m c d : Nat) (xs ys : List Int) (hx : RdI w A c xs) (hn : xs.length = n) (hy : RdI w B d ys) (hm : ys.length = m) (h1 : setB xs 32 = true) (h2 : setB ys 32 = true) :
    Calls Tryz.prog 30 #[.slice A n c, .slice B m d] w (PostS w (minusL xs ys)) := by
  rw [minusL_eq h1 h2]
  have HV := l01Both_c w A B n m c d xs ys hx hn hy hm h1 h2 false
  rw [show (xs.filter fun z => hasB ys z == false) = xs.filter (fun z => !hasB ys z) from List.filter_congr (fun z _ => by cases hasB ys z <;> rfl)] at HV
  have HV := Lib.hid HV
  clear hx hn hy hm h1 h2
  go_enter Tryz.func30, Tryz.ntmps30
  go_wp2_with fail
  refine (HV.out).mono ?_
  rintro e w1 ⟨⟨A, k, c, rfl, hk, ho⟩, hb⟩
  have HK := Lib.hid hk
  have HO := Lib.hid ho
  have HB := Lib.hid hb
  clear hk ho hb
  go_wp2
  go_ret
  exact ⟨⟨A, k, c, rfl, HK.out, HO.out⟩, HB.out⟩

theorem idL_succ (k : Nat) : idL (k + 1) = idL k ++ [(k : Int)] := by unfold idL; rw [List.range_succ, List.map_append]; rfl
theorem idL_set {P : Nat} (h : P ≤ 32) : setB (idL P) 32 = true := by
  rw [setB_iff]
  refine ⟨?_, fun z hz => ?_, by omega, by omega⟩
  · unfold idL
    rw [List.pairwise_map]
    exact List.pairwise_lt_range.imp (fun h => by omega)
  · unfold idL at hz
    obtain ⟨k, hk, rfl⟩ := List.mem_map.1 hz
    have := List.mem_range.1 hk
    omega
end Go.Proofs.YtmmkmkbpgcbehaaGreat
