/-
  MakeTriples of the reference. Conditions: those of each theorem.
-/
import Derived.Test.YtambaonoeppblaaTrpK
import Derived.Test.YtambaonoeppblaaTrpL
namespace Go.Proofs.Ytambaonoeppblaa
open Go.RowKit
set_option linter.unusedVariables false
set_option linter.unusedSimpArgs false

/-- It returned a design. -/
def PostD1 (w : World) (p : Int) (xss : List (List Int)) (e : Ending) (w' : World) : Prop :=
  (∃ A n c R, e = .returned (.agg #[.int .i64 p, .slice A n c]) ∧ xss.length = n ∧ OwnM w' w.heap.size A c R xss) ∧ Below w.heap.size w w'
theorem tripleB_nat {v : Nat} (h : tripleB (v : Int) = true) : 3 ≤ v ∧ v ≤ 27 ∧ (v % 6 = 1 ∨ v % 6 = 3) := by
  unfold tripleB at h; rw [decide_eq_true_eq] at h; omega
theorem hasB_orders (v : Int) : hasB ordersL v = tripleB v := by
  rw [Bool.eq_iff_iff, hasB_true]
  unfold tripleB ordersL
  rw [decide_eq_true_eq]
  simp only [List.mem_cons, List.not_mem_nil, or_false]
  omega
theorem mtX_rows {v : Nat} {r : List Int} (h : r ∈ mtX v) : r.length = 3 := by
  unfold mtX at h
  split at h
  · rcases List.mem_append.1 h with h | h
    · exact mxX_len h
    · exact ldX_len h
  · rcases List.mem_append.1 h with h | h
    · exact mxX_len h
    · exact skX_len h
theorem row_of_len {xss : List (List Int)} (h : ∀ r ∈ xss, r.length = 3) (k : Nat) (hk : k < xss.length) : (row xss k).length = 3 := by
  rw [row_eq hk]; exact h _ (List.getElem_mem hk)

set_option maxRecDepth 100000 in
set_option maxHeartbeats 4000000 in
theorem l11Make_of (w : World) (v t : Nat) (g : Nat) (xs : List (List Int)) (hp : xs.Perm (mtX v)) (hv : tripleB (v : Int) = true) (ht : t = v / 6) (h3 : v % 6 = 3 → ∀ W, Calls Try.prog 46 #[.int .i64 (t : Int)] W (PostM W xs)) (h1 : v % 6 = 1 → ∀ W, Calls Try.prog 47 #[.int .i64 (t : Int)] W (PostM W xs)) :
    Calls Try.prog 22 #[.int .i64 (v : Int)] w (PostD1 w (v : Int) (sortLL (mtX v))) := by
  have hv9 := tripleB_nat hv
  have hlen : xs.length = (mtX v).length := hp.length_eq
  have h128 := mtX_cnt hv
  have hrow : ∀ r ∈ xs, r.length = 3 := fun r h => mtX_rows (hp.mem_iff.1 h)
  have HSo := Lib.hid (fun (W : World) (A : Option Addr) (n c : Nat) (R : Spine) (hr : RdM W A c R xs) (hn : xs.length = n) => by
    have hcap : NilCap R n := by
      have := nilCap_of_rows hr (fun k hk => by rw [row_of_len hrow k hk]; omega)
      rwa [hn] at this
    have := l10Sort_c W A n c R xs hr hn hcap (by omega) (fun k hk => by rw [row_of_len hrow k (by omega)]; omega)
    rwa [sortLL_perm hp] at this)
  generalize sortLL (mtX v) = lst at *
  have H3 := Lib.hid h3
  have H1 := Lib.hid h1
  have hzD := zeroD
  obtain ⟨wa, hwa⟩ : ∃ wa, wa = w.alloc (.cells #[.int .i64 0, .slice none 0 0] 24) := ⟨_, rfl⟩
  have hZa : RBox wa w.heap.size := by rw [hwa]; exact RBox.made w 24
  have hBa : Below w.heap.size w wa := by rw [hwa]; exact below_boxed w (.cells #[.int .i64 0, .slice none 0 0] 24)
  have hsa : w.heap.size + 1 ≤ wa.heap.size := by rw [hwa]; simp
  have HZa := Lib.hid hZa
  have HBa := Lib.hid hBa
  clear hp hlen h128 hrow hv
  rcases hv9 with ⟨hv1, hv2, hm | hm⟩
  · have hd1 : ((v : Int) % 6 == 3) = false := by simp; omega
    have hd2 : ((v : Int).tmod 6 == 3) = false := by rw [Int.tmod_eq_emod_of_nonneg (by omega)]; exact hd1
    have hq1 : ((v : Int) - 1) / 6 = (t : Int) := by omega
    have hq2 : ((v : Int) - 1).tdiv 6 = (t : Int) := by rw [Int.tdiv_eq_ediv_of_nonneg (by omega)]; exact hq1
    have HCb := Lib.hid (fun W => H1.out hm W)
    clear h3 h1 hm ht
    go_enter Try.func22, Try.ntmps22
    go_wp2_with fail
    rw [← hwa]
    clear hwa hZa hBa
    refine (HCb.out _).mono ?_
    rintro e w3 ⟨⟨A3, n3, c3, R3, rfl, hn3, ho3⟩, hb3⟩
    have HSk := Lib.hid (HSo.out w3 A3 n3 c3 R3 ho3.rd hn3)
    have HZ3 := Lib.hid (HZa.out.step (lo := wa.heap.size) (by omega) hb3)
    have HB3 := Lib.hid (HBa.out.trans (hb3.mono HBa.out.size))
    have hs3 := hb3.size
    clear hb3 hn3 ho3 hd1 hd2 hq1 hq2
    go_wp2_with fail
    refine (HSk.out).mono ?_
    rintro e w9 ⟨⟨A9, n9, c9, R9, rfl, hn9, ho9⟩, hb9⟩
    have HZ9 := Lib.hid (HZ3.out.step (lo := w3.heap.size) (by omega) hb9)
    have HB9 := Lib.hid (HB3.out.trans (hb9.mono HB3.out.size))
    have HO9 := Lib.hid (show OwnM w9 (w.heap.size + 1) A9 c9 R9 lst from ho9.lower (by omega))
    have HN9 := Lib.hid hn9
    clear hb9 ho9 hn9
    have rz := HZ9.out
    have z0 := rz.c0
    have z1 := rz.c1
    have y0 := rz.f0
    have y1 := rz.f1
    clear rz
    go_wp2
    obtain ⟨r0, r1⟩ := HZ9.out.read (.int .i64 (v : Int)) (.slice A9 n9 c9)
    refine bodyPost_ret (v := .agg #[.int .i64 (v : Int), .slice A9 n9 c9]) (by simp [results, Try.results22, go_sem, r0, r1]) rfl ⟨⟨A9, n9, c9, R9, rfl, HN9.out, own_set2 HO9.out (by omega) _ _⟩, below_set2 HB9.out (by omega)⟩
  · have hd1 : ((v : Int) % 6 == 3) = true := by simp; omega
    have hd2 : ((v : Int).tmod 6 == 3) = true := by rw [Int.tmod_eq_emod_of_nonneg (by omega)]; exact hd1
    have hq1 : ((v : Int) - 3) / 6 = (t : Int) := by omega
    have hq2 : ((v : Int) - 3).tdiv 6 = (t : Int) := by rw [Int.tdiv_eq_ediv_of_nonneg (by omega)]; exact hq1
    have HCb := Lib.hid (fun W => H3.out hm W)
    clear h3 h1 hm ht
    go_enter Try.func22, Try.ntmps22
    go_wp2_with fail
    rw [← hwa]
    clear hwa hZa hBa
    refine (HCb.out _).mono ?_
    rintro e w3 ⟨⟨A3, n3, c3, R3, rfl, hn3, ho3⟩, hb3⟩
    have HSk := Lib.hid (HSo.out w3 A3 n3 c3 R3 ho3.rd hn3)
    have HZ3 := Lib.hid (HZa.out.step (lo := wa.heap.size) (by omega) hb3)
    have HB3 := Lib.hid (HBa.out.trans (hb3.mono HBa.out.size))
    have hs3 := hb3.size
    clear hb3 hn3 ho3 hd1 hd2 hq1 hq2
    go_wp2_with fail
    refine (HSk.out).mono ?_
    rintro e w9 ⟨⟨A9, n9, c9, R9, rfl, hn9, ho9⟩, hb9⟩
    have HZ9 := Lib.hid (HZ3.out.step (lo := w3.heap.size) (by omega) hb9)
    have HB9 := Lib.hid (HB3.out.trans (hb9.mono HB3.out.size))
    have HO9 := Lib.hid (show OwnM w9 (w.heap.size + 1) A9 c9 R9 lst from ho9.lower (by omega))
    have HN9 := Lib.hid hn9
    clear hb9 ho9 hn9
    have rz := HZ9.out
    have z0 := rz.c0
    have z1 := rz.c1
    have y0 := rz.f0
    have y1 := rz.f1
    clear rz
    go_wp2
    obtain ⟨r0, r1⟩ := HZ9.out.read (.int .i64 (v : Int)) (.slice A9 n9 c9)
    refine bodyPost_ret (v := .agg #[.int .i64 (v : Int), .slice A9 n9 c9]) (by simp [results, Try.results22, go_sem, r0, r1]) rfl ⟨⟨A9, n9, c9, R9, rfl, HN9.out, own_set2 HO9.out (by omega) _ _⟩, below_set2 HB9.out (by omega)⟩

theorem l11Make_c (w : World) (v : Nat) (hv : tripleB (v : Int) = true) : Calls Try.prog 22 #[.int .i64 (v : Int)] w (PostD1 w (v : Int) (sortLL (mtX v))) := by
  have h := tripleB_nat hv
  by_cases h3 : v % 6 = 3
  · refine l11Make_of w v (v / 6) 0 (bsX (boF (v / 6) (2 * (v / 6) + 1)) (2 * (v / 6) + 1) (2 * (v / 6) + 1)) ?_ hv rfl (fun _ W => l11Bose_c W (v / 6) (by omega)) (fun h1 => by omega)
    unfold mtX; rw [if_pos h3]; exact bsX_perm _ _ _
  · refine l11Make_of w v (v / 6) 0 (skX (2 * (v / 6)) (v / 6) (v / 6) ++ mxX (skF (v / 6)) (2 * (v / 6)) (2 * (v / 6))) ?_ hv rfl (fun h1 => absurd h1 h3) (fun _ W => l11Skolem_c W (v / 6) (by omega) (by omega))
    unfold mtX; rw [if_neg h3]; exact List.perm_append_comm

set_option maxRecDepth 100000 in
set_option maxHeartbeats 4000000 in
theorem specMakeTriples_c (w : World) (v : Int) (hv : -9223372036854775808 ≤ v ∧ v ≤ 9223372036854775807) : Calls Try.prog 6 #[.int .i64 v] w (PostDC w (mkTP v) (mkTX v) (mkTC v)) := by
  have HT := Lib.hid (fun W => specTripleOrders_c W)
  have HHas := Lib.hid (fun (W : World) (A : Option Addr) (c : Nat) (h : RdI W A c ordersL) => by have := has_c W A 9 c ordersL v h rfl; rwa [hasB_orders] at this)
  clear hv
  rcases hb : tripleB v with _ | _
  · rw [show mkTP v = 0 by unfold mkTP; rw [if_neg (by rw [hb]; simp)], show mkTX v = [] by unfold mkTX; rw [if_neg (by rw [hb]; simp)], show mkTC v = 2 by unfold mkTC; rw [if_neg (by rw [hb]; simp)]]
    simp only [hb] at HHas
    have HHas := Lib.hid HHas.out
    clear hb
    have hzD := zeroD
    obtain ⟨wa, hwa⟩ : ∃ wa, wa = w.alloc (.cells #[.int .i64 0, .slice none 0 0] 24) := ⟨_, rfl⟩
    have hZa : RBox wa w.heap.size := by rw [hwa]; exact RBox.made w 24
    have hBa : Below w.heap.size w wa := by rw [hwa]; exact below_boxed w (.cells #[.int .i64 0, .slice none 0 0] 24)
    have hsa : w.heap.size + 1 ≤ wa.heap.size := by rw [hwa]; simp
    have HZa := Lib.hid hZa
    have HBa := Lib.hid hBa
    go_enter Try.func6, Try.ntmps6
    go_wp2_with fail
    rw [← hwa]
    clear hwa hZa hBa
    refine (HT.out _).mono ?_
    rintro e w3 ⟨⟨A3, c3, rfl, ho3⟩, hb3⟩
    have HHk := Lib.hid (HHas.out w3 A3 c3 ho3.rd)
    have HZ3 := Lib.hid (HZa.out.step (lo := wa.heap.size) (by omega) hb3)
    have HB3 := Lib.hid (HBa.out.trans (hb3.mono HBa.out.size))
    clear hb3 ho3
    go_wp2_with fail
    refine (HHk.out).mono ?_
    rintro e w' ⟨rfl, rfl⟩
    have rz := HZ3.out
    have z0 := rz.c0
    have z1 := rz.c1
    have y0 := rz.f0
    have y1 := rz.f1
    clear rz
    go_wp2
    obtain ⟨r0, r1⟩ := HZ3.out.read (.int .i64 0) (.slice none 0 0)
    refine bodyPost_ret (v := .tuple #[.agg #[.int .i64 0, .slice none 0 0], .int .i64 2]) (by simp [results, Try.results6, go_sem, r0, r1]) rfl ⟨⟨none, 0, 0, fun _ => (none, 0), rfl, rfl, OwnM.nil_ _ _ _⟩, by first | exact HB3.out | exact below_set2 HB3.out (by omega)⟩
  · obtain ⟨k, rfl⟩ : ∃ k : Nat, v = (k : Int) := ⟨v.toNat, by unfold tripleB at hb; rw [decide_eq_true_eq] at hb; omega⟩
    rw [show mkTP (k : Int) = (k : Int) by unfold mkTP; rw [if_pos hb], show mkTX (k : Int) = sortLL (mtX k) by unfold mkTX; rw [if_pos hb]; rfl, show mkTC (k : Int) = 0 by unfold mkTC; rw [if_pos hb]]
    have HMk := Lib.hid (fun W => l11Make_c W k hb)
    simp only [hb] at HHas
    have HHas := Lib.hid HHas.out
    generalize sortLL (mtX k) = lst at *
    clear hb
    have hzD := zeroD
    obtain ⟨wa, hwa⟩ : ∃ wa, wa = w.alloc (.cells #[.int .i64 0, .slice none 0 0] 24) := ⟨_, rfl⟩
    have hZa : RBox wa w.heap.size := by rw [hwa]; exact RBox.made w 24
    have hBa : Below w.heap.size w wa := by rw [hwa]; exact below_boxed w (.cells #[.int .i64 0, .slice none 0 0] 24)
    have hsa : w.heap.size + 1 ≤ wa.heap.size := by rw [hwa]; simp
    have HZa := Lib.hid hZa
    have HBa := Lib.hid hBa
    go_enter Try.func6, Try.ntmps6
    go_wp2_with fail
    rw [← hwa]
    clear hwa hZa hBa
    refine (HT.out _).mono ?_
    rintro e w3 ⟨⟨A3, c3, rfl, ho3⟩, hb3⟩
    have HHk := Lib.hid (HHas.out w3 A3 c3 ho3.rd)
    have HZ3 := Lib.hid (HZa.out.step (lo := wa.heap.size) (by omega) hb3)
    have HB3 := Lib.hid (HBa.out.trans (hb3.mono HBa.out.size))
    have hs3 := hb3.size
    clear hb3 ho3
    go_wp2_with fail
    refine (HHk.out).mono ?_
    rintro e w' ⟨rfl, rfl⟩
    go_wp2_with fail
    refine (HMk.out _).mono ?_
    rintro e w9 ⟨⟨A9, n9, c9, R9, rfl, hn9, ho9⟩, hb9⟩
    have HZ9 := Lib.hid (HZ3.out.step (lo := w3.heap.size) (by omega) hb9)
    have HB9 := Lib.hid (HB3.out.trans (hb9.mono HB3.out.size))
    have HO9 := Lib.hid (show OwnM w9 (w.heap.size + 1) A9 c9 R9 lst from ho9.lower (by omega))
    have HN9 := Lib.hid hn9
    clear hb9 ho9 hn9
    have rz := HZ9.out
    have z0 := rz.c0
    have z1 := rz.c1
    have y0 := rz.f0
    have y1 := rz.f1
    clear rz
    go_wp2
    obtain ⟨r0, r1⟩ := HZ9.out.read (.int .i64 (k : Int)) (.slice A9 n9 c9)
    refine bodyPost_ret (v := .tuple #[.agg #[.int .i64 (k : Int), .slice A9 n9 c9], .int .i64 0]) (by simp [results, Try.results6, go_sem, r0, r1]) rfl ⟨⟨A9, n9, c9, R9, rfl, HN9.out, own_set2 HO9.out (by omega) _ _⟩, below_set2 HB9.out (by omega)⟩
end Go.Proofs.Ytambaonoeppblaa
