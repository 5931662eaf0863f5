/-
  A slice of slices of slices of int64 that came in, opened: what it reads as. Conditions: none.
-/
import Derived.Test.YthgbfgdnljgicaaLawFrame
import Derived.Test.YthgbfgdnljgicaaTri
namespace Go.Proofs.Ythgbfgdnljgicaa
open Go.ChangeShapes Go.WideShapes Go.ChangeAt Go.RowKit Go.Deep
set_option linter.unusedVariables false
set_option linter.unusedSimpArgs false

section
variable {H : Type} {enc : TypeId × Value → H} {W : World}

theorem open_L {A : Option Addr} {len cap : Nat} {d : DataW H} {p : List MemPlace} (h : DataW.Trod enc Try.prog W 0 (fun _ => true) true 22 (.slice A len cap) d p) :
    ∃ S x, RdL W A cap S x ∧ x.length = len ∧ WfT x := by
  obtain ⟨fuel, hf⟩ := h
  rcases open_slice1 Try.underlying22 (by kernel_rfl) hf with ⟨hcs, _⟩ | ⟨a, l, c, m, n', V, D, Pl, hcs, _, hl, hm, hmm, _, hr⟩
  · simp [Value.cells] at hcs
    obtain ⟨rfl, rfl, rfl⟩ := hcs
    exact ⟨fun _ => (none, 0, fun _ => (none, 0)), [], RdL.nil_ _ _, rfl, fun x hx => by simp at hx⟩
  · simp [Value.cells] at hcs
    obtain ⟨rfl, rfl, rfl⟩ := hcs
    simp only [if_true] at hmm
    subst hmm
    have each : ∀ k, k < len → ∃ y : Option Addr × Nat × Nat × Spine × List (List Int), V k = .slice y.1 y.2.1 y.2.2.1 ∧ RdM W y.1 y.2.2.1 y.2.2.2.1 y.2.2.2.2 ∧ y.2.2.2.2.length = y.2.1 ∧ WfM y.2.2.2.2 := by
      intro k hk
      obtain ⟨_, h2⟩ := hr k (by omega)
      have hs : ∃ A n c, V k = .slice A n c := by
        rcases open_int_rows Try.underlying24 Try.underlying35 Try.underlying2 (by kernel_rfl) (by kernel_rfl) h2 with ⟨hcs, _⟩ | ⟨a, l, c, B, L, C, Z, hcs, _⟩
        · exact ⟨_, _, _, by simpa using hcs⟩
        · exact ⟨_, _, _, by simpa using hcs⟩
      obtain ⟨A, n, c, e⟩ := hs
      rw [e] at h2
      have h3 : DataW.Trod enc Try.prog W 0 (fun _ => true) true 24 (.slice A n c) (D k) (Pl k) := ⟨n', h2⟩
      obtain ⟨R, xss, h4, h5, h6⟩ := open_M h3
      exact ⟨(A, n, c, R, xss), e, h4, h5, h6⟩
    obtain ⟨y, hy⟩ := choose_lt each
    have hp : ∀ k, k < len → pln ((List.range len).map fun k => (y k).2.2.2.2) k = (y k).2.2.2.2 := fun k hk => by simp [pln, hk]
    refine ⟨fun k => ((y k).1, (y k).2.2.1, (y k).2.2.2.1), (List.range len).map fun k => (y k).2.2.2.2, ⟨by simpa using hl, hm, fun k hk => ?_, fun k hk => ?_⟩, by simp, fun q hq => ?_⟩
    · have hk' : k < len := by simpa using hk
      obtain ⟨b, off, spot⟩ := a
      have h0 := (hr 0 (by omega)).1
      have hspot : spot = none := by simpa [Addr.add] using World.cell?_spot h0
      subst hspot
      have hc := (hr k (by omega)).1
      have hadd : (⟨b, off, none⟩ : Addr).add k = ⟨b, off + k, none⟩ := by unfold Addr.add; split <;> simp_all
      rw [hadd] at hc
      exact ⟨b, off, rfl, cell_size hc, by rw [hc, (hy k hk').1, hp k hk', (hy k hk').2.2.1]⟩
    · have hk' : k < len := by simpa using hk
      rw [hp k hk']
      exact (hy k hk').2.1
    · obtain ⟨k, hk, rfl⟩ := List.mem_map.1 hq
      exact (hy k (List.mem_range.1 hk)).2.2.2
end
end Go.Proofs.Ythgbfgdnljgicaa
