/-
  The laws' arguments opened: what a slice of int64, or of such slices, that came in reads as. Conditions: none.
-/
import Derived.Test.YtmmkmkbpgcbehaaGreatGa
import Derived.ProofKit
import Derived.OpenShut
import Derived.ChangeOld
import Derived.Deep.Matrix
namespace Go.Proofs.YtmmkmkbpgcbehaaGreat
open Go.ChangeShapes Go.WideShapes Go.ChangeAt Go.RowKit Go.Deep
set_option linter.unusedVariables false
set_option linter.unusedSimpArgs false

theorem wf_b64 {n : Int} (h : (Lit.int .i64 n).wf = true) : -9223372036854775808 ≤ n ∧ n ≤ 9223372036854775807 := bounds_i64 h

theorem nth_take {zs : List Int} {k n : Nat} (h : k < n) : nth (zs.take n) k = (zs[k]?).getD 0 := by
  simp [nth, List.getElem?_take, h]

section
variable {H : Type} {enc : TypeId × Value → H} {W : World}

theorem open_S {A : Option Addr} {len cap : Nat} {d : DataW H} {p : List MemPlace} (h : DataW.Trod enc Tryz.prog W 0 (fun _ => true) true 35 (.slice A len cap) d p) :
    ∃ xs, RdI W A cap xs ∧ xs.length = len ∧ WfL xs := by
  obtain ⟨fuel, hf⟩ := h
  rcases open_ints Tryz.underlying35 Tryz.underlying2 (by kernel_rfl) hf with ⟨hcs, _⟩ | ⟨a, l, c, zs, hcs, _, hl, hm, hz, _, hcell, hwz⟩
  · simp [Value.cells] at hcs
    obtain ⟨rfl, rfl, rfl⟩ := hcs
    exact ⟨[], RdI.nil_, rfl, fun x hx => by simp at hx⟩
  · simp [Value.cells] at hcs
    obtain ⟨rfl, rfl, rfl⟩ := hcs
    simp only [if_true] at hz
    have hlen : (zs.take len).length = len := by rw [List.length_take]; omega
    refine ⟨zs.take len, ⟨by rw [hlen]; exact hl, hm, fun k hk => ?_⟩, hlen, fun x hx => wf_b64 (hwz x (List.mem_of_mem_take hx))⟩
    rw [hlen] at hk
    obtain ⟨b, off, spot⟩ := a
    have h0 := hcell 0 (by omega)
    have hspot : spot = none := by simpa [Addr.add] using World.cell?_spot h0
    subst hspot
    have hk' := hcell k (by omega)
    have hadd : (⟨b, off, none⟩ : Addr).add k = ⟨b, off + k, none⟩ := by unfold Addr.add; split <;> simp_all
    rw [hadd] at hk'
    refine ⟨b, off, rfl, cell_size hk', ?_⟩
    rw [hk', nth_take hk]
    simp

theorem open_M {A : Option Addr} {len cap : Nat} {d : DataW H} {p : List MemPlace} (h : DataW.Trod enc Tryz.prog W 0 (fun _ => true) true 22 (.slice A len cap) d p) :
    ∃ R xss, RdM W A cap R xss ∧ xss.length = len ∧ WfM xss := by
  obtain ⟨fuel, hf⟩ := h
  rcases open_int_rows Tryz.underlying22 Tryz.underlying35 Tryz.underlying2 (by kernel_rfl) (by kernel_rfl) hf with ⟨hcs, _⟩ | ⟨a, l, c, B, L, C, Z, hcs, _, hl, hm, _, hr⟩
  · simp [Value.cells] at hcs
    obtain ⟨rfl, rfl, rfl⟩ := hcs
    exact ⟨fun _ => (none, 0), [], RdM.nil_, rfl, fun x hx => by simp at hx⟩
  · simp [Value.cells] at hcs
    obtain ⟨rfl, rfl, rfl⟩ := hcs
    have hrow : ∀ k, k < len → row ((List.range len).map fun r => (Z r).take (L r)) k = (Z k).take (L k) := fun k hk => by simp [row, hk]
    have hlenr : ∀ k, k < len → ((Z k).take (L k)).length = L k := fun k hk => by
      obtain ⟨_, h1, _, h2, _⟩ := hr k (by omega)
      rw [List.length_take]; omega
    refine ⟨fun k => (B k, C k), (List.range len).map fun r => (Z r).take (L r), ⟨by simpa using hl, hm, fun k hk => ?_, fun k hk => ?_⟩, by simp, fun xs hxs x hx => ?_⟩
    · have hk' : k < len := by simpa using hk
      obtain ⟨b, off, spot⟩ := a
      have h0 := (hr 0 (by omega)).1
      have hspot : spot = none := by simpa [Addr.add] using World.cell?_spot h0
      subst hspot
      have hc := (hr k (by omega)).1
      have hadd : (⟨b, off, none⟩ : Addr).add k = ⟨b, off + k, none⟩ := by unfold Addr.add; split <;> simp_all
      rw [hadd] at hc
      exact ⟨b, off, rfl, cell_size hc, by rw [hc, hrow k hk', hlenr k hk']⟩
    · have hk' : k < len := by simpa using hk
      obtain ⟨_, h1, h2, h3, h4, h5, h6⟩ := hr k (by omega)
      rw [hrow k hk']
      refine ⟨by rw [hlenr k hk']; exact h1, h2, fun j hj => ?_⟩
      rw [hlenr k hk'] at hj
      rcases hB : B k with _ | ⟨b, off, spot⟩
      · have := h5 hB
        omega
      · obtain ⟨_, h7⟩ := h6 _ hB
        have h0 := h7 0 (by omega)
        have hspot : spot = none := by simpa [Addr.add] using World.cell?_spot h0
        subst hspot
        have hj' := h7 j (by omega)
        have hadd : (⟨b, off, none⟩ : Addr).add j = ⟨b, off + j, none⟩ := by unfold Addr.add; split <;> simp_all
        rw [hadd] at hj'
        refine ⟨b, off, rfl, cell_size hj', ?_⟩
        rw [hj', nth_take hj]
        simp
    · obtain ⟨k, hk, rfl⟩ := List.mem_map.1 hxs
      have hk' := List.mem_range.1 hk
      exact wf_b64 ((hr k (by omega)).2.2.2.2.1 x (List.mem_of_mem_take hx))
end
end Go.Proofs.YtmmkmkbpgcbehaaGreat
