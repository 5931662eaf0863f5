/-
  PaleyMatrix of the program. Conditions: those of each theorem.
-/
import Derived.Test.YtbbaeopobnpnmaaPmP
namespace Go.Proofs.Ytbbaeopobnpnmaa
open Go.RowKit
set_option linter.unusedVariables false
set_option linter.unusedSimpArgs false

theorem keepH {w w' : World} {B B2 : Nat} {v0 v1 v2 v3 : Value} (hb : Below w.heap.size w w') (hB : B < w.heap.size) (hB2 : B2 < w.heap.size) (h : w.cell? ⟨B, 0, none⟩ = some v0 ∧ w.cell? ⟨B, 1, none⟩ = some v1 ∧ w.cell? ⟨B, 2, none⟩ = some v2 ∧ w.cell? ⟨B2, 0, none⟩ = some v3) :
    w'.cell? ⟨B, 0, none⟩ = some v0 ∧ w'.cell? ⟨B, 1, none⟩ = some v1 ∧ w'.cell? ⟨B, 2, none⟩ = some v2 ∧ w'.cell? ⟨B2, 0, none⟩ = some v3 :=
  ⟨(hb.cell (p := ⟨B, 0, none⟩) hB).trans h.1, (hb.cell (p := ⟨B, 1, none⟩) hB).trans h.2.1, (hb.cell (p := ⟨B, 2, none⟩) hB).trans h.2.2.1, (hb.cell (p := ⟨B2, 0, none⟩) hB2).trans h.2.2.2⟩

set_option maxHeartbeats 4000000 in
theorem pm1_c (W : World) (Bs Bf p k : Nat) (A : Option Addr) (n c : Nat) (As : Option Addr) (ns cs : Nat) (sq : List Int) (hX : FldC W Bf p k A n c) (hS : W.cell? ⟨Bs, 0, none⟩ = some (.slice As ns cs)) (hF : FldOk p k) (hr : RdI W As cs sq) (hn : sq.length = ns) (x y : Nat) (hx1 : x < 34) (hy1 : y < 34) :
    Calls Try.prog 23 #[.int .i64 (x : Int), .int .i64 (y : Int), .pointer (some ⟨Bs, 0, none⟩), .pointer (some ⟨Bf, 0, none⟩)] W (PostV W (.int .i64 (pmF p k sq x y))) := by
  by_cases h0 : x = 0
  · rw [show pmF p k sq x y = 1 by simp [pmF, h0]]
    subst h0
    clear hX hS hF hr hn
    go_enter Try.func23, Try.ntmps23
    go_wp2
    go_quiet (fail)
    go_wp2
    go_ret
    exact ⟨rfl, below_drewN (Below.refl _ _) nq⟩
  have hxd : ((x : Int) == 0) = false := by simp; omega
  have hxn : ¬ (x : Int) = 0 := by omega
  by_cases h1 : y = 0
  · rw [show pmF p k sq x y = 1 by simp [pmF, h1]]
    subst h1
    clear hX hS hF hr hn h0
    go_enter Try.func23, Try.ntmps23
    go_wp2
    go_quiet (fail)
    go_wp2
    go_ret
    exact ⟨rfl, below_drewN (Below.refl _ _) nq⟩
  have hyd : ((y : Int) == 0) = false := by simp; omega
  obtain ⟨u, hu⟩ : ∃ u, u = x - 1 := ⟨_, rfl⟩
  obtain ⟨v, hv⟩ : ∃ v, v = y - 1 := ⟨_, rfl⟩
  have hwu : IntKind.i64.wrap ((x : Int) - 1) = (u : Int) := by rw [show (x : Int) - 1 = (u : Int) by omega]; exact IntWalk.i64_in _ (by omega)
  have hwv : IntKind.i64.wrap ((y : Int) - 1) = (v : Int) := by rw [show (y : Int) - 1 = (v : Int) by omega]; exact IntWalk.i64_in _ (by omega)
  have hEq : pmF p k sq x y = if hasB sq ((cmbF p k (-1) v u : Nat) : Int) = true then 1 else -1 := by unfold pmF pmS; rw [if_neg (by omega), hu, hv]
  rw [hEq]
  have HCo := Lib.hid (combine_c W.drew p k A n c v u (-1) hF (by omega) (by omega) (by omega) (by omega))
  have HHa := Lib.hid (fun V (hb : Below W.heap.size W V) => contains_c V As ns cs sq ((cmbF p k (-1) v u : Nat) : Int) (hr.below hb) hn)
  generalize hasB sq ((cmbF p k (-1) v u : Nat) : Int) = q at *
  generalize cmbF p k (-1) v u = z at *
  have hc := (show W.cell? ⟨Bf, 0, none⟩ = _ ∧ W.cell? ⟨Bf, 1, none⟩ = _ ∧ W.cell? ⟨Bf, 2, none⟩ = _ ∧ W.cell? ⟨Bs, 0, none⟩ = _ from ⟨hX.c0, hX.c1, hX.c2, hS⟩)
  have hl1 := hX.lt
  have hl2 := cell_size hS
  clear hX hS hF hr hn h0 h1 hu hv hEq
  cases q
  all_goals
    go_enter Try.func23, Try.ntmps23
    go_wp2
    go_region_held3 (fun w' => w'.cell? ⟨Bf, 0, none⟩ = some (.int .i64 (p : Int)) ∧ w'.cell? ⟨Bf, 1, none⟩ = some (.int .i64 (k : Int)) ∧ w'.cell? ⟨Bf, 2, none⟩ = some (.slice A n c) ∧ w'.cell? ⟨Bs, 0, none⟩ = some (.slice As ns cs)) (first | exact hc | exact hS5)
      (first | (go_at_call 25; (with_reducible refine (HCo.out).mono ?_); rintro e w5 ⟨rfl, hb5⟩; have hS5 := keepH hb5 hl1 hl2 hc; have HB5 := Lib.hid (show Below W.heap.size W w5 from (Below.refl W.heap.size W).drew.trans hb5)) | (go_at_call 24; (with_reducible refine (HHa.out w5 HB5.out).mono ?_); rintro e w' ⟨rfl, rfl⟩))
    clear hc hS5 hb5 hwu hwv
    go_wp2
    go_ret
    exact ⟨rfl, HB5.out⟩

set_option maxHeartbeats 4000000 in
set_option maxRecDepth 10000 in
theorem implPaleyMatrix_c (w : World) (q : Int) (hq : -9223372036854775808 ≤ q ∧ q ≤ 9223372036854775807) : Calls Try.prog 7 #[.int .i64 q] w (PostMC w (pmM q) (pmC q)) := by
  have hmf : ∀ (fn : Fn) (first cap : Array Value) (w : World), (Instr.makeFunc fn first cap).run Try.prog w = .ok (.func fn first cap) w := fun _ _ _ _ => rfl
  rcases hb : fdB q with _ | _
  · have hno : pmOk q = false := decide_eq_false fun h => by rw [hb] at h; exact absurd h.1 (by simp)
    rw [show pmM q = [] from if_neg (by rw [hno]; simp), show pmC q = 2 from if_neg (by rw [hno]; simp)]
    have HM := Lib.hid (MakeField_no w q hb)
    clear hb hno hmf
    go_enter Try.func7, Try.ntmps7
    go_wp2_with fail
    refine (HM.out).mono ?_
    rintro e w1 ⟨⟨A1, n1, c1, rfl, hn1, ho1⟩, hb1⟩
    have HBf := Lib.hid (hb1.alloc hb1.size (.cells #[.int .i64 0, .int .i64 0, .slice A1 n1 c1] 39))
    clear hb1 ho1 hn1
    go_wp2
    go_ret2
    exact ⟨⟨none, 0, 0, fun _ => (none, 0), rfl, rfl, OwnM.nil_ _ _ _⟩, HBf.out⟩
  have hfs := fd_spec hb
  have hV := fdY_valid hb
  have hM := MakeField_ok w q hb
  have h2 : 2 ≤ q := hfs.2.2.2.2.2.1
  have h64 : q ≤ 64 := hfs.2.2.2.2.2.2
  have ht4 : q.tmod 4 = q % 4 := Int.tmod_eq_emod_of_nonneg (by omega)
  by_cases hok : q % 4 = 3 ∧ q + 1 ≤ 32
  rotate_left
  · have hno : pmOk q = false := decide_eq_false fun h => hok h.2
    rw [show pmM q = [] from if_neg (by rw [hno]; simp), show pmC q = 2 from if_neg (by rw [hno]; simp)]
    have HM := Lib.hid hM
    have HOk := Lib.hid hok
    clear hb hno hmf hfs hV hM hok
    obtain ⟨r, hr⟩ : ∃ r, r = q % 4 := ⟨_, rfl⟩
    rw [← hr] at ht4
    have HR := Lib.hid hr
    clear hr
    by_cases hr3 : r = 3
    · have hrd : (r != 3) = false := by simp; exact hr3
      have hq32 : (32 : Int) < q + 1 := by have := HOk.out; have := HR.out; omega
      clear hr3
      go_enter Try.func7, Try.ntmps7
      go_wp2_with fail
      refine (HM.out).mono ?_
      rintro e w1 ⟨⟨A1, n1, c1, rfl, hn1, ho1⟩, hb1⟩
      have HBf := Lib.hid (hb1.alloc hb1.size (.cells #[.int .i64 (fdP q : Int), .int .i64 (fdK q : Int), .slice A1 n1 c1] 39))
      clear hb1 ho1 hn1
      go_wp2
      go_ret2
      exact ⟨⟨none, 0, 0, fun _ => (none, 0), rfl, rfl, OwnM.nil_ _ _ _⟩, HBf.out⟩
    · have hrd : (r != 3) = true := by simp; exact hr3
      clear hr3
      go_enter Try.func7, Try.ntmps7
      go_wp2_with fail
      refine (HM.out).mono ?_
      rintro e w1 ⟨⟨A1, n1, c1, rfl, hn1, ho1⟩, hb1⟩
      have HBf := Lib.hid (hb1.alloc hb1.size (.cells #[.int .i64 (fdP q : Int), .int .i64 (fdK q : Int), .slice A1 n1 c1] 39))
      clear hb1 ho1 hn1
      go_wp2
      go_ret2
      exact ⟨⟨none, 0, 0, fun _ => (none, 0), rfl, rfl, OwnM.nil_ _ _ _⟩, HBf.out⟩
  · have hyes : pmOk q = true := decide_eq_true ⟨hb, hok⟩
    rw [show pmM q = sqTo (pmF (fdP q) (fdK q) (pmSq q)) (q.toNat + 1) (q.toNat + 1) from if_pos hyes, show pmC q = 0 from if_pos hyes]
    have hEs : pmSq q = putsL (fsqL (fdP q) (fdK q) (fdY q) (fdP q ^ fdK q - 1)) := rfl
    have hrd : (q % 4 != 3) = false := by simp; exact hok.1
    have hrd2 : (q.tmod 4 != 3) = false := by rw [ht4]; exact hrd
    have hq32 : ¬ (32 : Int) < q + 1 := by omega
    generalize fdP q = p at *
    generalize fdK q = k at *
    generalize fdY q = poly at *
    have HM := Lib.hid hM
    have hF := hV.ok
    have hPl := hV.len
    have HFS := Lib.hid (fun W A c (hr : RdI W A c poly) => FieldSquares_c W p k A (k + 1) c poly hV hr (Nat.le_refl _) (Nat.le_refl _))
    rw [← hEs] at HFS
    have HPl := Lib.hid hPl
    generalize pmSq q = sq at *
    have HFi := Lib.hid (fun W Bs Bf A c As ns cs (hX : FldC W Bf p k A (k + 1) c) (hS : W.cell? ⟨Bs, 0, none⟩ = some (.slice As ns cs)) (hr : RdI W As cs sq) (hn : sq.length = ns) => filledSquare_c W (q + 1) (q.toNat + 1) 23 #[.pointer (some ⟨Bs, 0, none⟩), .pointer (some ⟨Bf, 0, none⟩)] (pmF p k sq) (enters_of Try.func23 (by kernel_rfl) rfl) (by omega) (by omega) (fun V x y hx hy hb => pm1_c V Bs Bf p k A (k + 1) c As ns cs sq (hX.below hb) ((hb.cell (p := ⟨Bs, 0, none⟩) (cell_size hS)).trans hS) hF (hr.below hb) hn x y (by omega) (by omega)))
    clear hb hfs hV hM hok hyes hEs hF hPl ht4
    go_enter Try.func7, Try.ntmps7
    go_wp2_with fail
    refine (HM.out).mono ?_
    rintro e w1 ⟨⟨A1, n1, c1, rfl, hn1, ho1⟩, hb1⟩
    obtain rfl : k + 1 = n1 := HPl.out.symm.trans hn1
    obtain ⟨w2, hw2⟩ : ∃ w2, w2 = w1.alloc (.cells #[.int .i64 (p : Int), .int .i64 (k : Int), .slice A1 (k + 1) c1] 39) := ⟨_, rfl⟩
    have HX2 := Lib.hid (show FldC w2 w1.heap.size p k A1 (k + 1) c1 from by rw [hw2]; exact FldC.made w1 p k A1 (k + 1) c1 39)
    have hb2 : Below w1.heap.size w1 w2 := by rw [hw2]; exact below_boxed w1 _
    have HB2 := Lib.hid (hb1.trans (hb2.mono hb1.size))
    have HP2 := Lib.hid (ho1.rd.below hb2)
    have HW2 := Lib.hid hw2
    have HS2 := Lib.hid (HFS.out w2 A1 c1 HP2.out)
    clear hb1 ho1 hn1 hb2 hw2
    go_wp2_with fail
    rw [← HW2.out]
    refine (HS2.out).mono ?_
    rintro e w3 ⟨⟨As, ns, cs, rfl, hns, hos⟩, hb3⟩
    obtain ⟨w4, hw4⟩ : ∃ w4, w4 = w3.alloc (.cells #[.slice As ns cs] 37) := ⟨_, rfl⟩
    have hb4 : Below w3.heap.size w3 w4 := by rw [hw4]; exact below_boxed w3 _
    have HX4 := Lib.hid ((HX2.out.below hb3).below hb4)
    have HB4 := Lib.hid ((HB2.out.trans (hb3.mono HB2.out.size)).trans (hb4.mono (HB2.out.trans (hb3.mono HB2.out.size)).size))
    have HS4 := Lib.hid (show w4.cell? ⟨w3.heap.size, 0, none⟩ = some (.slice As ns cs) from by rw [hw4]; exact World.cell?_alloc_at _ _ _ _ rfl)
    have HF4 := Lib.hid (HFi.out w4 w3.heap.size w1.heap.size A1 c1 As ns cs HX4.out HS4.out (hos.rd.below hb4) hns)
    have HW4 := Lib.hid hw4
    clear hb3 hos hns hb4 hw4
    go_wp2_with fail
    rw [← HW4.out]
    refine (HF4.out).mono ?_
    rintro e w5 ⟨⟨A5, n5, c5, R5, rfl, hn5, ho5⟩, hb5⟩
    have HB5 := Lib.hid (HB4.out.trans (hb5.mono HB4.out.size))
    have HO5 := Lib.hid (ho5.lower (lo' := w.heap.size) HB4.out.size)
    have HN5 := Lib.hid hn5
    clear ho5 hb5 hn5
    go_wp2
    go_ret2
    exact ⟨⟨A5, n5, c5, R5, rfl, HN5.out, HO5.out⟩, HB5.out⟩
end Go.Proofs.Ytbbaeopobnpnmaa
