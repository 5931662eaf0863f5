/-
  slices.IndexFunc and slices.ContainsFunc over slices of int64 and over slices of such slices, at whatever function value that writes nothing that was there; size. Conditions: those of each theorem.
-/
import Derived.Test.YthgbfgdnljgicabLawKit
import Derived.Shelf.GgClosure.Gives
namespace Go.Proofs.Ythgbfgdnljgicab
open Go.RowKit
set_option linter.unusedVariables false
set_option linter.unusedSimpArgs false

/-- The first k < n with p k, else -1. -/
def firstIdx (p : Nat → Bool) (n : Nat) : Int := match (List.range n).find? p with | some k => (k : Int) | none => -1
def anyTo (p : Nat → Bool) (n : Nat) : Bool := (List.range n).any p

theorem firstIdx_hit {p : Nat → Bool} {n k : Nat} (hk : k < n) (hp : p k = true) (hl : ∀ j, j < k → p j = false) : firstIdx p n = (k : Int) := by
  unfold firstIdx
  have : (List.range n).find? p = some k := by
    rw [List.find?_eq_some_iff_append]
    refine ⟨hp, List.range k, (List.range n).drop (k + 1), ?_, fun a ha => by simp [hl a (List.mem_range.1 ha)]⟩
    have h1 : (List.range n).take k = List.range k := by rw [List.take_range]; congr 1; omega
    have h2 : (List.range n)[k]'(by simpa using hk) = k := by simp
    have h3 := List.drop_eq_getElem_cons (l := List.range n) (i := k) (by simpa using hk)
    rw [h2] at h3
    rw [← h1, ← h3, List.take_append_drop]
  rw [this]
theorem firstIdx_miss {p : Nat → Bool} {n : Nat} (hl : ∀ j, j < n → p j = false) : firstIdx p n = -1 := by
  unfold firstIdx
  rw [List.find?_eq_none.2 fun x hx => by simp [hl x (List.mem_range.1 hx)]]
theorem firstIdx_bounds (p : Nat → Bool) (n : Nat) : -1 ≤ firstIdx p n ∧ firstIdx p n < (n : Int) ∨ firstIdx p n = -1 := by
  unfold firstIdx
  split
  · next k hk =>
    have := List.mem_range.1 (List.mem_of_find?_eq_some hk)
    exact .inl (by omega)
  · exact .inr rfl
theorem anyTo_true {p : Nat → Bool} {n : Nat} : anyTo p n = true ↔ ∃ k, k < n ∧ p k = true := by simp [anyTo]
theorem anyTo_false {p : Nat → Bool} {n : Nat} : anyTo p n = false ↔ ∀ k, k < n → p k = false := by simp [anyTo]
theorem firstIdx_any (p : Nat → Bool) (n : Nat) : decide (0 ≤ firstIdx p n) = anyTo p n := by
  by_cases h : ∃ k, k < n ∧ p k = true
  · rw [anyTo_true.2 h]
    unfold firstIdx
    split
    · simp
    · next he =>
      obtain ⟨k, hk, hp⟩ := h
      have := List.find?_eq_none.1 he k (List.mem_range.2 hk)
      simp [hp] at this
  · have hf : ∀ k, k < n → p k = false := fun k hk => by
      rcases hpk : p k with _ | _
      · rfl
      · exact absurd ⟨k, hk, hpk⟩ h
    rw [anyTo_false.2 hf, firstIdx_miss hf]
    decide

set_option maxHeartbeats 400000 in
theorem indexFuncI (w : World) (A : Option Addr) (n c : Nat) (xs : List Int) (g : Nat) (lb : Array Value) (p : Nat → Bool) (eg : ∀ args w, (callFunc g args).run Try.prog w = .ok (.enter g args) w)
    (hr : RdI w A c xs) (hn : xs.length = n) (hp : ∀ W k, k < n → Below w.heap.size w W → Calls Try.prog g (#[.int .i64 (nth xs k)] ++ lb) W (PostV W (.bool (p k)))) :
    Calls Try.prog 75 #[.slice A n c, .func (.func g) #[] lb] w (PostV w (.int .i64 (firstIdx p n))) := by
  have hm : n ≤ 9223372036854775807 := by have h1 := hr.le; have h2 := hr.cap; unfold maxLen at h2; omega
  have HR := Lib.hid hr
  have HN := Lib.hid hn
  have HP := Lib.hid hp
  clear hr hn hp
  go_enter Try.func75, Try.ntmps75
  go_wp2
  go_loopw [8] (fun i wr => ∃ k : Nat, k ≤ n ∧ i = .int .i64 k ∧ Hid (∀ j, j < k → p j = false) ∧ Below w.heap.size w wr) (fun i _ => n - (intOf i).toNat)
  case atStart => exact ⟨0, Nat.zero_le _, rfl, fun j hj => absurd hj (by omega), Below.refl _ _⟩
  case round =>
    obtain ⟨k, hk, rfl, hF, hB⟩ := hrel
    by_cases hlt : k < n
    · obtain ⟨b, off, rfl, hb, hc⟩ := HR.out.at_ k (by rw [HN.out]; exact hlt)
      have hcr : wr.cell? ⟨b, off + k, none⟩ = some (.int .i64 (nth xs k)) := (hB.cell (p := ⟨b, off + k, none⟩) hb).trans hc
      have hcall := HP.out wr k hlt hB
      clear hc
      rcases hq : p k with _ | _
      · rw [hq] at hcall
        have HC := Lib.hid hcall
        have HQ := Lib.hid hq
        clear hcall hq
        go_wp2_with fail
        refine (HC.out).mono ?_
        rintro e w1 ⟨rfl, hb1⟩
        have hB1 : Below w.heap.size w w1 := hB.trans (hb1.mono hB.size)
        go_wp2
        go_roundw
        case rel =>
          refine ⟨k + 1, by omega, by go_num, fun j hj => ?_, hB1⟩
          by_cases e : j = k
          · subst e; exact HQ.out
          · exact hF.out j (by omega)
        case measure => simp [intOf]; omega
      · rw [hq] at hcall
        have HC := Lib.hid hcall
        have HE := Lib.hid (firstIdx_hit hlt hq hF.out)
        clear hcall hq
        go_wp2_with fail
        refine (HC.out).mono ?_
        rintro e w1 ⟨rfl, hb1⟩
        have hB1 : Below w.heap.size w w1 := hB.trans (hb1.mono hB.size)
        go_wp2
        go_ret
        exact ⟨by rw [HE.out]; rfl, hB1⟩
    · obtain rfl : k = n := by omega
      have HE := Lib.hid (firstIdx_miss hF.out)
      go_wp2
      go_ret
      exact ⟨by rw [HE.out]; rfl, hB⟩

set_option maxHeartbeats 400000 in
theorem indexFuncM (w : World) (A : Option Addr) (n c : Nat) (R : Spine) (xs : List (List Int)) (g : Nat) (lb : Array Value) (p : Nat → Bool) (eg : ∀ args w, (callFunc g args).run Try.prog w = .ok (.enter g args) w)
    (hr : RdM w A c R xs) (hn : xs.length = n) (hp : ∀ W k, k < n → Below w.heap.size w W → Calls Try.prog g (#[.slice (R k).1 (row xs k).length (R k).2] ++ lb) W (PostV W (.bool (p k)))) :
    Calls Try.prog 63 #[.slice A n c, .func (.func g) #[] lb] w (PostV w (.int .i64 (firstIdx p n))) := by
  have hm : n ≤ 9223372036854775807 := by have h1 := hr.le; have h2 := hr.cap; unfold maxLen at h2; omega
  have HR := Lib.hid hr
  have HN := Lib.hid hn
  have HP := Lib.hid hp
  clear hr hn hp
  go_enter Try.func63, Try.ntmps63
  go_wp2
  go_loopw [8] (fun i wr => ∃ k : Nat, k ≤ n ∧ i = .int .i64 k ∧ Hid (∀ j, j < k → p j = false) ∧ Below w.heap.size w wr) (fun i _ => n - (intOf i).toNat)
  case atStart => exact ⟨0, Nat.zero_le _, rfl, fun j hj => absurd hj (by omega), Below.refl _ _⟩
  case round =>
    obtain ⟨k, hk, rfl, hF, hB⟩ := hrel
    by_cases hlt : k < n
    · obtain ⟨b, off, rfl, hb, hc⟩ := HR.out.at_ k (by rw [HN.out]; exact hlt)
      have hcr : wr.cell? ⟨b, off + k, none⟩ = some (.slice (R k).1 (row xs k).length (R k).2) := (hB.cell (p := ⟨b, off + k, none⟩) hb).trans hc
      have hcall := HP.out wr k hlt hB
      clear hc
      rcases hq : p k with _ | _
      · rw [hq] at hcall
        have HC := Lib.hid hcall
        have HQ := Lib.hid hq
        clear hcall hq
        go_wp2_with fail
        refine (HC.out).mono ?_
        rintro e w1 ⟨rfl, hb1⟩
        have hB1 : Below w.heap.size w w1 := hB.trans (hb1.mono hB.size)
        go_wp2
        go_roundw
        case rel =>
          refine ⟨k + 1, by omega, by go_num, fun j hj => ?_, hB1⟩
          by_cases e : j = k
          · subst e; exact HQ.out
          · exact hF.out j (by omega)
        case measure => simp [intOf]; omega
      · rw [hq] at hcall
        have HC := Lib.hid hcall
        have HE := Lib.hid (firstIdx_hit hlt hq hF.out)
        clear hcall hq
        go_wp2_with fail
        refine (HC.out).mono ?_
        rintro e w1 ⟨rfl, hb1⟩
        have hB1 : Below w.heap.size w w1 := hB.trans (hb1.mono hB.size)
        go_wp2
        go_ret
        exact ⟨by rw [HE.out]; rfl, hB1⟩
    · obtain rfl : k = n := by omega
      have HE := Lib.hid (firstIdx_miss hF.out)
      go_wp2
      go_ret
      exact ⟨by rw [HE.out]; rfl, hB⟩

set_option maxHeartbeats 400000 in
theorem containsFuncI (w : World) (A : Option Addr) (n c : Nat) (xs : List Int) (g : Nat) (lb : Array Value) (p : Nat → Bool) (eg : ∀ args w, (callFunc g args).run Try.prog w = .ok (.enter g args) w)
    (hr : RdI w A c xs) (hn : xs.length = n) (hp : ∀ W k, k < n → Below w.heap.size w W → Calls Try.prog g (#[.int .i64 (nth xs k)] ++ lb) W (PostV W (.bool (p k)))) :
    Calls Try.prog 67 #[.slice A n c, .func (.func g) #[] lb] w (PostV w (.bool (anyTo p n))) := by
  have HC := Lib.hid (indexFuncI w A n c xs g lb p eg hr hn hp)
  have HE := Lib.hid (firstIdx_any p n)
  clear hr hn hp
  go_enter Try.func67, Try.ntmps67
  go_wp2_with fail
  refine (HC.out).mono ?_
  rintro e w1 ⟨rfl, hb1⟩
  go_wp2
  go_ret
  exact ⟨by rw [← HE.out]; rfl, hb1⟩

set_option maxHeartbeats 400000 in
theorem containsFuncM (w : World) (A : Option Addr) (n c : Nat) (R : Spine) (xs : List (List Int)) (g : Nat) (lb : Array Value) (p : Nat → Bool) (eg : ∀ args w, (callFunc g args).run Try.prog w = .ok (.enter g args) w)
    (hr : RdM w A c R xs) (hn : xs.length = n) (hp : ∀ W k, k < n → Below w.heap.size w W → Calls Try.prog g (#[.slice (R k).1 (row xs k).length (R k).2] ++ lb) W (PostV W (.bool (p k)))) :
    Calls Try.prog 47 #[.slice A n c, .func (.func g) #[] lb] w (PostV w (.bool (anyTo p n))) := by
  have HC := Lib.hid (indexFuncM w A n c R xs g lb p eg hr hn hp)
  have HE := Lib.hid (firstIdx_any p n)
  clear hr hn hp
  go_enter Try.func47, Try.ntmps47
  go_wp2_with fail
  refine (HC.out).mono ?_
  rintro e w1 ⟨rfl, hb1⟩
  go_wp2
  go_ret
  exact ⟨by rw [← HE.out]; rfl, hb1⟩

end Go.Proofs.Ythgbfgdnljgicab
