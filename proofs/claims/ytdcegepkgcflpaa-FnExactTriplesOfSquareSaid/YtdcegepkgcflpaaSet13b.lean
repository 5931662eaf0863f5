/-
  TranslateSet and MultiplySet of both. Conditions: those of each theorem.
-/
import Derived.Test.YtdcegepkgcflpaaSet13
import Derived.Test.YtdcegepkgcflpaaDsg
namespace Go.Proofs.Ytdcegepkgcflpaa
open Go.RowKit
set_option linter.unusedVariables false
set_option linter.unusedSimpArgs false

theorem mod_lt_eq {N d : Nat} (h : d % N = 0) (hd : d < N) : d = 0 := by rw [Nat.mod_eq_of_lt hd] at h; exact h
theorem mvF_nat {N : Nat} {xs : List Int} {t b k u : Nat} (hu : nth xs k = (u : Int)) : mvF N xs (t : Int) (b : Int) k = (((u * t + b) % N : Nat) : Int) := by
  unfold mvF
  rw [hu, ← tmod_nat, Int.natCast_add, Int.natCast_mul]
theorem mv_inj {N : Nat} {xs : List Int} (h : Set13 (N : Int) xs) {t b : Nat} (hc : Nat.gcd t N = 1) {i j : Nat} (hij : i < j) (hj : j < xs.length) : mvF N xs (t : Int) (b : Int) i ≠ mvF N xs (t : Int) (b : Int) j := by
  obtain ⟨⟨hN1, hN2⟩, hbd, hlt, _⟩ := set13_facts h
  have h1 := hbd i (by omega)
  have h2 := hbd j hj
  have h3 := hlt i j hij hj
  obtain ⟨u, hu⟩ : ∃ u : Nat, nth xs i = (u : Int) := ⟨(nth xs i).toNat, by omega⟩
  obtain ⟨v, hv⟩ : ∃ v : Nat, nth xs j = (v : Int) := ⟨(nth xs j).toNat, by omega⟩
  rw [mvF_nat hu, mvF_nat hv]
  intro e
  have e' : (u * t + b) % N = (v * t + b) % N := by exact_mod_cast e
  have h4 := Nat.sub_mod_eq_zero_of_mod_eq e'.symm
  have h5 : v * t + b - (u * t + b) = (v - u) * t := by rw [Nat.sub_mul]; omega
  rw [h5] at h4
  have h6 : N ∣ (v - u) * t := Nat.dvd_of_mod_eq_zero h4
  have h7 : N ∣ v - u := Nat.Coprime.dvd_of_dvd_mul_right (by unfold Nat.Coprime; rw [Nat.gcd_comm]; exact hc) h6
  have h8 := Nat.le_of_dvd (by omega) h7
  omega
theorem mv_sort {N : Nat} {xs : List Int} (h : Set13 (N : Int) xs) {t b : Nat} (hc : Nat.gcd t N = 1) : sortL ((List.range xs.length).map (mvF N xs (t : Int) (b : Int))) = mvL N xs (t : Int) (b : Int) :=
  (putsTo_sort fun _ _ hij hj => mv_inj h hc hij hj).symm
theorem mvL_len (N : Nat) (xs : List Int) (t b : Int) : (mvL N xs t b).length ≤ xs.length := putsTo_len _ _

theorem trLit_c (W : World) (B : Nat) (b x : Int) (h : W.cell? ⟨B, 0, none⟩ = some (.int .i64 b)) (hb : 0 ≤ b ∧ b ≤ 32) (hx : 0 ≤ x ∧ x ≤ 32) : Calls Try.prog 71 #[.int .i64 x, .pointer (some ⟨B, 0, none⟩)] W (PostV W (.int .i64 (x + b))) := by
  go_enter Try.func71, Try.ntmps71
  go_wp2
  go_ret
  exact ⟨rfl, Below.refl _ _⟩
theorem translate_c (w : World) (N : Nat) (A : Option Addr) (n c : Nat) (xs : List Int) (hr : RdI w A c xs) (hn : xs.length = n) (hok : Set13 (N : Int) xs) (b : Nat) (hb : b < N) :
    Calls Try.prog 37 #[.int .i64 (N : Int), .slice A n c, .int .i64 (b : Int)] w (PostS w (mvL N xs 1 (b : Int))) := by
  obtain ⟨⟨hN1, hN2⟩, hbd, _, hl⟩ := set13_facts hok
  have hB0 := below_boxed w (.cells #[.int .i64 (b : Int)] 2)
  have hc0 : (w.alloc (.cells #[.int .i64 (b : Int)] 2)).cell? ⟨w.heap.size, 0, none⟩ = some (.int .i64 (b : Int)) := by simp [go_sem]
  have hM := mappedSet_c (w.alloc (.cells #[.int .i64 (b : Int)] 2)) N ⟨hN1, hN2⟩ A n c xs (hr.below hB0) hn (by omega) 71 #[.pointer (some ⟨w.heap.size, 0, none⟩)] (fun x => x + (b : Int)) (enters_of Try.func71 (by kernel_rfl) rfl)
    (fun k hk => by have := hbd k (by omega); show 0 ≤ nth xs k + (b : Int) ∧ nth xs k + (b : Int) ≤ 4000; omega) (fun W k hk hbW => trLit_c W w.heap.size (b : Int) (nth xs k) ((hbW.cell (p := ⟨w.heap.size, 0, none⟩) (by simp)).trans hc0) (by omega) (by have := hbd k (by omega); omega))
  rw [show (List.range n).map (fun k => (nth xs k + (b : Int)).tmod (N : Int)) = (List.range xs.length).map (mvF N xs ((1 : Nat) : Int) (b : Int)) by
    rw [hn]; refine List.map_congr_left fun k _ => ?_; unfold mvF; rw [Int.natCast_one, Int.mul_one], mv_sort hok (Nat.gcd_one_left N)] at hM
  rw [show ((1 : Nat) : Int) = 1 from rfl] at hM
  have HM := Lib.hid hM
  have HB0 := Lib.hid hB0
  generalize mvL N xs 1 (b : Int) = T at *
  have hmf : ∀ (fn : Fn) (first cap : Array Value) (w : World), (Instr.makeFunc fn first cap).run Try.prog w = .ok (.func fn first cap) w := fun _ _ _ _ => rfl
  clear hM hB0 hc0 hr hn hok hbd hl
  go_enter Try.func37, Try.ntmps37
  go_wp2_with fail
  refine (HM.out).mono ?_
  rintro e w1 ⟨⟨A1, n1, c1, rfl, hn1, ho1⟩, hb1⟩
  have HO1 := Lib.hid (ho1.lower (lo' := w.heap.size) (by simp))
  have HB1 := Lib.hid (HB0.out.trans (hb1.mono (by simp)))
  have HN1 := Lib.hid hn1
  clear ho1 hb1 hn1
  go_wp2
  go_ret
  exact ⟨⟨A1, n1, c1, rfl, HN1.out, HO1.out⟩, HB1.out⟩

def askC (n : Int) (xs : List Int) (b : Int) : Int := if set13 n xs = false then 1 else if inB b 0 (n - 1) = false then 2 else 0
end Go.Proofs.Ytdcegepkgcflpaa
