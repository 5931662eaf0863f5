/-
  NextSubset of the program: the next set of the same size, and slices.Clone at []int64. Conditions: those of each theorem.
-/
import Derived.Test.YtnpbkkglnbobaaaRise
import Derived.Test.YtnpbkkglnbobaaaMat
import Derived.Lib.SliceRun
namespace Go.Proofs.Ytnpbkkglnbobaaa
open Go.RowKit
set_option linter.unusedVariables false
set_option linter.unusedSimpArgs false

set_option maxHeartbeats 400000 in
set_option maxRecDepth 100000 in
theorem Clone_c (w : World) (b off n c : Nat) (xs : List Int) (hr : RdI w (some ⟨b, off, none⟩) c xs) (hn : xs.length = n) (hz : n ≤ 1048576) :
    Calls Try.prog 111 #[.slice (some ⟨b, off, none⟩) n c] w (PostS w xs) := by
  have H0 := Lib.hid (OwnI.lit0 w (Nat.le_refl w.heap.size))
  have HR := Lib.hid (hr.below ((Below.refl w.heap.size w).alloc (Nat.le_refl _) (.cells #[] 2)))
  have HN := Lib.hid hn
  have hq : ∀ (w : World) (a : Option Addr) (n c n' c' : Nat), (binOp .eql 29 (.slice a n c) (.slice none n' c')).run Try.prog w = .ok (.bool a.isNone) w := fun w a n c n' c' => Lib.run_eql_slice_nil w _ _ a n c n' c' Try.underlying29
  clear hr hn
  go_enter Try.func111, Try.ntmps111
  go_wp2_with (at_builtin
               refine wpI_appendL rfl _ _ rfl w.heap.size _ _ 0 [] (some ⟨b, off, none⟩) n c xs rfl rfl rfl HN.out H0.out HR.out (fun e => nomatch e) (by omega) (by simp) ?_
               intro A' c' w' ho hg ha)
  have HO := Lib.hid ho
  have hB : Below w.heap.size w w' := ((Below.refl _ _).alloc (Nat.le_refl _) _).trans (below_blk H0.out hg (Nat.le_refl _) (by simp))
  clear ho hg ha
  go_wp2
  go_ret
  exact ⟨⟨A', _, c', rfl, by rw [HN.out], HO.out⟩, hB⟩

/-- xs below i, then rising by one from xs[i] + 1, m of them set. -/
def nxL (xs : List Int) (i : Nat) : Nat → List Int
  | 0 => xs
  | m + 1 => (nxL xs i m).set (i + m) (nth xs i + 1 + m)
theorem nxL_len (xs : List Int) (i m : Nat) : (nxL xs i m).length = xs.length := by
  induction m with
  | zero => rfl
  | succ m ih => rw [nxL, List.length_set, ih]

/-- The place of the element that rises: the last with room. -/
def NxAt (n : Int) (xs : List Int) (i : Nat) : Prop := i < xs.length ∧ nth xs i ≠ n - xs.length + i ∧ ∀ t, i < t → t < xs.length → nth xs t = n - xs.length + t
def NxEnd (n : Int) (xs : List Int) : Prop := ∀ t, t < xs.length → nth xs t = n - xs.length + t
def PostNx (w : World) (n : Int) (xs : List Int) (e : Ending) (w' : World) : Prop :=
  ((∃ i A c, NxAt n xs i ∧ e = .returned (.tuple #[.slice A xs.length c, .bool true]) ∧ OwnI w' w.heap.size A c (nxL xs i (xs.length - i))) ∨ (NxEnd n xs ∧ e = .returned (.tuple #[.slice none 0 0, .bool false]))) ∧ Below w.heap.size w w'

set_option maxHeartbeats 2000000 in
theorem NextSubset_c (w : World) (n : Int) (A : Option Addr) (k c : Nat) (xs : List Int) (hr : RdI w A c xs) (hn : xs.length = k) (hs : setB xs n = true) (hk : k ≤ 32) :
    Calls Try.prog 68 #[.int .i64 n, .slice A k c] w (PostNx w n xs) := by
  have hV := ValidSet_c w A k c xs n hr hn
  rw [hs] at hV
  have HV := Lib.hid hV
  have HZ := fun (W : World) => Lib.hid (sizeI_c W A k c)
  obtain ⟨hn0, hn32⟩ := (setB_iff.1 hs).2.2
  have HS := Lib.hid (setB_iff.1 hs).2.1
  have HR := Lib.hid hr
  have HN := Lib.hid hn
  clear hr hn hs hV
  go_enter Try.func68, Try.ntmps68
  go_wp2_with fail
  refine (HV.out).mono ?_
  rintro e w1 ⟨rfl, rfl⟩
  go_wp2_with fail
  refine ((HZ w).out).mono ?_
  rintro e w1 ⟨rfl, rfl⟩
  go_wp2
  go_loopw [7] (fun i wr => ∃ m : Nat, m ≤ k ∧ i = .int .i64 ((m : Int) - 1) ∧ wr = w ∧ Hid (∀ t, m ≤ t → t < k → nth xs t = n - k + t)) (fun i _ => (intOf i + 1).toNat)
  case atStart => exact ⟨k, Nat.le_refl _, rfl, rfl, Lib.hid (fun t h1 h2 => by omega)⟩
  case round =>
    obtain ⟨m, hm, rfl, rfl, HE⟩ := hrel
    obtain ⟨wo, hwo⟩ : ∃ wo : World, wo = wr := ⟨_, rfl⟩
    subst hwo
    rcases m with _ | p
    · rw [show ((0 : Nat) : Int) - 1 = -1 from rfl]
      have HEnd := Lib.hid (show NxEnd n xs from fun t ht => by have := HE.out t (Nat.zero_le _) (by rw [← HN.out]; exact ht); rw [this, HN.out])
      go_wp2
      go_ret2
      exact ⟨Or.inr ⟨HEnd.out, rfl⟩, Below.refl _ _⟩
    · rw [show ((p + 1 : Nat) : Int) - 1 = (p : Int) by omega]
      have hpx : p < xs.length := by rw [HN.out]; omega
      obtain ⟨b, off, e1, hb, hc⟩ := HR.out.at_ p hpx
      have hx := HS.out (nth xs p) (mem_nth.2 ⟨p, hpx, rfl⟩)
      obtain ⟨v, hv⟩ : ∃ v, v = nth xs p := ⟨_, rfl⟩
      rw [← hv] at hc hx
      have HVv := Lib.hid hv
      clear hv
      subst e1
      obtain ⟨hx0, hx1⟩ := hx
      have hpk : p < k := by omega
      by_cases he : v = n - k + p
      · have hd : (v == n - k + p) = true := by simp [he]
        have HE2 := Lib.hid (show ∀ t, p ≤ t → t < k → nth xs t = n - k + t from fun t h1 h2 => by
          by_cases ht : t = p
          · rw [ht, ← HVv.out, he]
          · exact HE.out t (by omega) h2)
        have hed := Lib.hid he
        clear he
        go_wp2
        go_roundw
        case rel => exact ⟨p, by omega, rfl, trivial, HE2⟩
        case measure => simp [intOf]
      · have hd : (v == n - k + p) = false := by simp [he]
        have HAt := Lib.hid (show NxAt n xs p from ⟨hpx, by rw [← HVv.out, HN.out]; exact he, fun t h1 h2 => by rw [HN.out]; exact HE.out t (by omega) (by rw [← HN.out]; exact h2)⟩)
        have HCl := Lib.hid (Clone_c wo b off k c xs HR.out HN.out (by omega))
        clear he
        go_wp2_with fail
        refine (HCl.out).mono ?_
        rintro e w2 ⟨⟨A2, n2, c2, rfl, hln, ho⟩, hb2⟩
        obtain rfl : n2 = k := by rw [← hln, HN.out]
        have hz2 := hb2.size
        obtain ⟨g, eg, _, _, _, _⟩ := ho.at_ (k := p) hpx
        subst eg
        have HO0 := Lib.hid (show OwnI w2 wo.heap.size (some ⟨g, 0, none⟩) c2 (nxL xs p (p - p)) by rw [Nat.sub_self]; exact ho)
        have HB0 := Lib.hid hb2
        have hgl := (ho.lt rfl).1
        have HC := Lib.hid hc
        have hb' := hb
        clear ho hb2 hln hc hd
        go_wp2
        go_loopw [9] (fun j wr => ∃ t : Nat, p ≤ t ∧ t ≤ n2 ∧ j = .int .i64 (t : Int) ∧ Hid (OwnI wr wo.heap.size (some ⟨g, 0, none⟩) c2 (nxL xs p (t - p))) ∧ Hid (Below wo.heap.size wo wr)) (fun j _ => n2 - (intOf j).toNat)
        case atStart => exact ⟨p, Nat.le_refl _, by omega, rfl, HO0, HB0⟩
        case round =>
          obtain ⟨t, ht1, ht2, rfl, HOm, HBm⟩ := hrel
          by_cases hlt : t < n2
          · have hcc := (HBm.out.cell (p := ⟨b, off + p, none⟩) hb').trans HC.out
            have hto0 : (0 : Int) ≤ (t : Int) := by omega
            have hst := HOm.out.stored t (v + 1 + t - p)
            have HO3 := Lib.hid (show OwnI (wr.setCell ⟨g, t, none⟩ (.int .i64 (v + 1 + t - p))) wo.heap.size (some ⟨g, 0, none⟩) c2 (nxL xs p (t + 1 - p)) by
              rw [show t + 1 - p = (t - p) + 1 by omega, nxL, show p + (t - p) = t by omega, ← HVv.out, show v + 1 + ((t - p : Nat) : Int) = v + 1 + t - p by omega]
              exact hst)
            have HB3 := Lib.hid (HBm.out.setCell (p := ⟨g, t, none⟩) hgl (.int .i64 (v + 1 + t - p)))
            obtain ⟨g1, eg1, _, _, hct, hft⟩ := HOm.out.at_ (k := t) (by rw [nxL_len, HN.out]; exact hlt)
            injection eg1 with eg1
            injection eg1 with eg1
            subst eg1
            clear hst
            go_wp2
            go_roundw
            case rel => exact ⟨t + 1, by omega, by omega, by go_num, HO3, HB3⟩
            case measure => simp [intOf]; omega
          · obtain rfl : t = n2 := by omega
            have HFin := Lib.hid (show PostNx wo n xs (.returned (.tuple #[.slice (some ⟨g, 0, none⟩) t c2, .bool true])) wr from ⟨Or.inl ⟨p, _, c2, HAt.out, by rw [HN.out], by rw [HN.out]; exact HOm.out⟩, HBm.out⟩)
            go_wp2
            go_ret2
            exact HFin.out
end Go.Proofs.Ytnpbkkglnbobaaa
