/-
  The field of a size: MakeField of the program, l03Make of the reference. Conditions: those of each theorem.
-/
import Derived.Test.YtbbaeopobnpnmaaFldM
import Derived.Test.YtbbaeopobnpnmaaDsg
namespace Go.Proofs.Ytbbaeopobnpnmaa
open Go.RowKit
set_option linter.unusedVariables false
set_option linter.unusedSimpArgs false

theorem stopF {p : Prop} (h : Hid p) : p := h.out
theorem zeroFd (w : World) : (zeroValue 39).run Try.prog w = .ok (.agg #[.int .i64 0, .int .i64 0, .slice none 0 0]) w := by kernel_rfl
/-- The box of a result that is a field, as it was made. -/
structure FBox (w : World) (B : Nat) : Prop where
  c0 : w.cell? ⟨B, 0, none⟩ = some (.int .i64 0)
  c1 : w.cell? ⟨B, 1, none⟩ = some (.int .i64 0)
  c2 : w.cell? ⟨B, 2, none⟩ = some (.slice none 0 0)
  f0 : w.frozen? ⟨B, 0, none⟩ = false
  f1 : w.frozen? ⟨B, 1, none⟩ = false
  f2 : w.frozen? ⟨B, 2, none⟩ = false
theorem FBox.made (w : World) (T : TypeId) : FBox (w.alloc (.cells #[.int .i64 0, .int .i64 0, .slice none 0 0] T)) w.heap.size := by
  constructor <;> simp [go_sem]
theorem FBox.lt {w : World} {B : Nat} (h : FBox w B) : B < w.heap.size := cell_size h.c0
theorem FBox.step {w w' : World} {B lo : Nat} (h : FBox w B) (hl : B < lo) (hb : Below lo w w') : FBox w' B :=
  ⟨(hb.cell (p := ⟨B, 0, none⟩) hl).trans h.c0, (hb.cell (p := ⟨B, 1, none⟩) hl).trans h.c1, (hb.cell (p := ⟨B, 2, none⟩) hl).trans h.c2, (hb.frozen (p := ⟨B, 0, none⟩) hl).trans h.f0, (hb.frozen (p := ⟨B, 1, none⟩) hl).trans h.f1, (hb.frozen (p := ⟨B, 2, none⟩) hl).trans h.f2⟩
theorem FBox.drewN {w : World} {B : Nat} (h : FBox w B) (n : Nat) : FBox (w.drewN n) B := ⟨h.c0, h.c1, h.c2, h.f0, h.f1, h.f2⟩
def set3 (w : World) (B : Nat) (u0 u1 u2 : Value) : World := ((w.setCell ⟨B, 0, none⟩ u0).setCell ⟨B, 1, none⟩ u1).setCell ⟨B, 2, none⟩ u2
theorem FBox.read {w : World} {B : Nat} (h : FBox w B) (u0 u1 u2 : Value) :
    (((w.setCell ⟨B, 0, none⟩ u0).setCell ⟨B, 1, none⟩ u1).setCell ⟨B, 2, none⟩ u2).cell? ⟨B, 0, none⟩ = some u0 ∧ (((w.setCell ⟨B, 0, none⟩ u0).setCell ⟨B, 1, none⟩ u1).setCell ⟨B, 2, none⟩ u2).cell? ⟨B, 1, none⟩ = some u1 ∧ (((w.setCell ⟨B, 0, none⟩ u0).setCell ⟨B, 1, none⟩ u1).setCell ⟨B, 2, none⟩ u2).cell? ⟨B, 2, none⟩ = some u2 := by
  have hne : ∀ (W : World) (i j : Nat) (u : Value), i ≠ j → (W.setCell ⟨B, i, none⟩ u).cell? ⟨B, j, none⟩ = W.cell? ⟨B, j, none⟩ := fun W i j u h => World.cell?_setCell_other _ _ _ _ (by intro e; injection e with e1 e2; exact h (by omega))
  have heq : ∀ (W : World) (i : Nat) (u v : Value), W.cell? ⟨B, i, none⟩ = some v → (W.setCell ⟨B, i, none⟩ u).cell? ⟨B, i, none⟩ = some u := fun W i u v h => World.cell?_setCell_same' _ _ _ (by rw [h]; rfl)
  refine ⟨?_, ?_, ?_⟩
  · rw [hne _ _ _ _ (by omega), hne _ _ _ _ (by omega)]
    exact heq _ _ _ _ h.c0
  · rw [hne _ _ _ _ (by omega)]
    exact heq _ _ _ _ (by rw [hne _ _ _ _ (by omega)]; exact h.c1)
  · exact heq _ _ _ (.slice none 0 0) (by rw [hne _ _ _ _ (by omega), hne _ _ _ _ (by omega)]; exact h.c2)
theorem below_set3 {B g : Nat} {w w' : World} {u0 u1 u2 : Value} (h : Below B w w') (hg : B ≤ g) : Below B w (((w'.setCell ⟨g, 0, none⟩ u0).setCell ⟨g, 1, none⟩ u1).setCell ⟨g, 2, none⟩ u2) :=
  ((h.setCell hg _).setCell hg _).setCell hg _
theorem own_set3 {w : World} {B lo : Nat} {A : Option Addr} {c : Nat} {xs : List Int} (ho : OwnI w (B + 1) A c xs) (hl : lo ≤ B + 1) (u0 u1 u2 : Value) :
    OwnI (((w.setCell ⟨B, 0, none⟩ u0).setCell ⟨B, 1, none⟩ u1).setCell ⟨B, 2, none⟩ u2) lo A c xs :=
  (ho.in_.step (fun k h1 h2 => by
    have : B + 1 ≤ k := h1
    rw [Below.heap_setCell _ _ _ _ (by show k ≠ B; omega), Below.heap_setCell _ _ _ _ (by show k ≠ B; omega), Below.heap_setCell _ _ _ _ (by show k ≠ B; omega)])).own.lower hl
/-- It returned a field with a polynomial in memory of its own. -/
def PostF (w : World) (p k : Int) (ys : List Int) (e : Ending) (w' : World) : Prop :=
  (∃ A n c, e = .returned (.agg #[.int .i64 p, .int .i64 k, .slice A n c]) ∧ ys.length = n ∧ OwnI w' w.heap.size A c ys) ∧ Below w.heap.size w w'
def PostFC (w : World) (p k : Int) (ys : List Int) (z : Int) (e : Ending) (w' : World) : Prop :=
  (∃ A n c, e = .returned (.tuple #[.agg #[.int .i64 p, .int .i64 k, .slice A n c], .int .i64 z]) ∧ ys.length = n ∧ OwnI w' w.heap.size A c ys) ∧ Below w.heap.size w w'

set_option maxHeartbeats 8000000 in
set_option maxRecDepth 10000 in
theorem MakeField_ok (w : World) (q : Int) (hb : fdB q = true) : Calls Try.prog 20 #[.int .i64 q] w (PostFC w (fdP q : Int) (fdK q : Int) (fdY q) 0) := by
  obtain ⟨hF, hpp, hpk, hir, _, hq2, hq64⟩ := fd_spec hb
  obtain ⟨wa, hwa⟩ : ∃ wa, wa = w.alloc (.cells #[.int .i64 0, .int .i64 0, .slice none 0 0] 39) := ⟨_, rfl⟩
  have hZa : FBox wa w.heap.size := by rw [hwa]; exact FBox.made w 39
  have hBa : Below w.heap.size w wa := by rw [hwa]; exact below_boxed w (.cells #[.int .i64 0, .int .i64 0, .slice none 0 0] 39)
  have hsa : w.heap.size + 1 ≤ wa.heap.size := by rw [hwa]; simp
  have HZa := Lib.hid hZa
  have HBa := Lib.hid hBa
  clear hZa hBa
  have hPP := PrimePower_c wa q
  rw [hpp] at hPP
  have hY : fdY q = poN (fdP q) (fdK q) (leN (fdP q) (fdK q)) := rfl
  rw [hY]
  generalize fdP q = p at *
  generalize fdK q = k at *
  have HPP := Lib.hid hPP
  have HWa := Lib.hid hwa
  obtain ⟨hl64, hli, hll⟩ := leN_spec hir
  have HLi := Lib.hid hli
  have HLl := Lib.hid hll
  obtain ⟨N, hN⟩ : ∃ N, N = leN p k := ⟨_, rfl⟩
  rw [← hN] at HLi HLl hl64 ⊢
  have hFF := hF
  obtain ⟨hp, hp2, hk1, hk6, hF5⟩ := hF
  have HIr := Lib.hid (fun W A c j (hr : RdI W A c (poN p k j)) => irreducible_c W A (k + 1) c (poN p k j) p k hr (poN_len p k j) hFF (poN_in hp k j) (Nat.le_refl _) (Nat.le_refl _))
  have hp0 : ((p : Int) == 0) = false := by simp; omega
  have hq0 : ¬ (64 : Int) < q := by omega
  clear hwa hPP hpp hpk hir hN hb hY hli hll hF5 hFF
  have hzF := zeroFd
  go_enter Try.func20, Try.ntmps20
  go_wp2_with fail
  rw [← HWa.out]
  refine (HPP.out).mono ?_
  rintro e w2 ⟨rfl, hb2⟩
  have HZ2 := Lib.hid (HZa.out.step (lo := wa.heap.size) (by omega) hb2)
  have HB2 := Lib.hid (HBa.out.trans (hb2.mono HBa.out.size))
  have hs2 := hb2.size
  clear hb2
  go_wp2
  go_loopw [6] (fun v wr => ∃ j : Nat, j ≤ N ∧ v = .int .i64 j ∧ Hid (Below w2.heap.size w2 wr)) (fun v _ => N - (intOf v).toNat)
  case atStart => exact ⟨0, Nat.zero_le _, rfl, Lib.hid (Below.refl _ _)⟩
  case round =>
    obtain ⟨j, hj, rfl, HB⟩ := hrel
    have hszr := HB.out.size
    have HDi := Lib.hid (digitsOf_c wr j p k (by omega) hp hp2 (by omega))
    have HBr2 := Lib.hid (Below.refl wr.heap.size wr)
    have HLd := Lib.hid (digL_len p j k)
    go_wp2_with fail
    refine (HDi.out).mono ?_
    rintro e w2b ⟨⟨A2, n2, c2, rfl, hn2, ho2⟩, hb2⟩
    obtain rfl : k = n2 := HLd.out.symm.trans hn2
    have HO2 := Lib.hid ho2
    have HBb2 := Lib.hid hb2
    have hszb := hb2.size
    clear hn2 ho2 hb2
    go_wp2_with (at_builtin; refine wpI_append rfl _ _ rfl wr.heap.size _ _ _ (digL p j k) (1) w2b.heap.size rfl rfl HLd.out (HO2.out.alloc (.cells #[.int .i64 (1)] 2)) (World.cell?_alloc_at _ _ _ _ rfl) (by omega) (by simp; omega) ?_; intro A3 c3 w3 ho3 hg3 ha3)
    have hB3 : Below wr.heap.size wr w3 := (HBb2.out.alloc HBb2.out.size (.cells #[.int .i64 (1)] 2)).trans (below_blk (HO2.out.alloc (.cells #[.int .i64 (1)] 2)) hg3 (Nat.le_refl _) (by simp; omega))
    have HO3 := Lib.hid ho3
    have HB3 := Lib.hid hB3
    clear ho3 hg3 ha3 hB3
    have HO4 := Lib.hid (show OwnI w3 wr.heap.size A3 c3 (poN p k j) from HO3.out)
    by_cases hjN : j < N
    · have HI4 := Lib.hid (HIr.out w3 A3 c3 j HO4.out.rd)
      rw [HLl.out j hjN] at HI4
      go_wp2_with fail
      refine (HI4.out).mono ?_
      rintro e w4 ⟨rfl, hb4⟩
      have HB4 := Lib.hid (HB.out.trans ((HB3.out.trans (hb4.mono HB3.out.size)).mono hszr))
      clear hb4
      go_wp2
      go_roundw
      case rel => exact ⟨j + 1, by omega, by go_num, HB4⟩
      case measure => simp [intOf] <;> omega
    · obtain rfl : j = N := by omega
      have HI4 := Lib.hid (HIr.out w3 A3 c3 j HO4.out.rd)
      rw [HLi.out] at HI4
      go_wp2_with fail
      refine (HI4.out).mono ?_
      rintro e w4 ⟨rfl, hb4⟩
      have HB4 := Lib.hid (HB.out.trans ((HB3.out.trans (hb4.mono HB3.out.size)).mono hszr))
      clear hb4 HI4
      have hs4 := HB4.out.size
      go_wp2_with fail
      have HDi := Lib.hid (digitsOf_c w4 j p k (by omega) hp hp2 (by omega))
      have HBr2 := Lib.hid (Below.refl w4.heap.size w4)
      have HLd := Lib.hid (digL_len p j k)
      go_wp2_with fail
      refine (HDi.out).mono ?_
      rintro e w2b ⟨⟨A2, n2, c2, rfl, hn2, ho2⟩, hb2⟩
      obtain rfl : k = n2 := HLd.out.symm.trans hn2
      have HO2 := Lib.hid ho2
      have HBb2 := Lib.hid hb2
      have hszb := hb2.size
      clear hn2 ho2 hb2
      go_wp2_with (at_builtin; refine wpI_append rfl _ _ rfl w4.heap.size _ _ _ (digL p j k) (1) w2b.heap.size rfl rfl HLd.out (HO2.out.alloc (.cells #[.int .i64 (1)] 2)) (World.cell?_alloc_at _ _ _ _ rfl) (by omega) (by simp; omega) ?_; intro A3 c3 w3 ho3 hg3 ha3; refine stopF ?_)
      have hB3 : Below w4.heap.size w4 w3 := (HBb2.out.alloc HBb2.out.size (.cells #[.int .i64 (1)] 2)).trans (below_blk (HO2.out.alloc (.cells #[.int .i64 (1)] 2)) hg3 (Nat.le_refl _) (by simp; omega))
      have HO3 := Lib.hid ho3
      have HB3 := Lib.hid hB3
      clear ho3 hg3 ha3 hB3
      have HO4 := Lib.hid (show OwnI w3 w4.heap.size A3 c3 (poN p k j) from HO3.out)
      have HBf := Lib.hid (HB2.out.trans ((HB4.out.trans (HB3.out.mono hs4)).mono HB2.out.size))
      have HZf := Lib.hid ((HZ2.out.step (lo := w2.heap.size) (by omega) HB4.out).step (lo := w4.heap.size) (by omega) HB3.out)
      have HOf := Lib.hid (HO4.out.lower (lo' := w.heap.size + 1) (by omega))
      have HLf := Lib.hid (poN_len p k j)
      have fz := HZf.out
      have z0 := fz.c0
      have z1 := fz.c1
      have z2 := fz.c2
      have y0 := fz.f0
      have y1 := fz.f1
      have y2 := fz.f2
      clear fz
      refine Lib.hid ?_
      go_wp2
      obtain ⟨r0, r1, r2⟩ := HZf.out.read (.int .i64 (p : Int)) (.int .i64 (k : Int)) (.slice A3 (k + 1) c3)
      refine bodyPost_ret (v := .tuple #[.agg #[.int .i64 (p : Int), .int .i64 (k : Int), .slice A3 (k + 1) c3], .int .i64 0]) (by simp [results, Try.results20, go_sem, r0, r1, r2]) rfl ⟨⟨A3, k + 1, c3, rfl, HLf.out, own_set3 HOf.out (by omega) _ _ _⟩, below_set3 HBf.out (by omega)⟩

set_option maxHeartbeats 8000000 in
set_option maxRecDepth 10000 in
theorem MakeField_no (w : World) (q : Int) (hb : fdB q = false) : Calls Try.prog 20 #[.int .i64 q] w (PostFC w 0 0 [] 2) := by
  have hb := of_decide_eq_false hb
  have hcase : (ppF q).1 = 0 ∨ 64 < q := by
    rcases Int.lt_or_le 64 q with h | h
    · exact .inr h
    · by_cases h2 : 2 ≤ q
      · have : ppF q = (0, 0) := by
          by_cases h0 : ppF q = (0, 0)
          · exact h0
          · exact absurd ⟨h2, h, h0⟩ hb
        exact .inl (by rw [this])
      · exact .inl (by rw [pp_low h2])
  obtain ⟨wa, hwa⟩ : ∃ wa, wa = w.alloc (.cells #[.int .i64 0, .int .i64 0, .slice none 0 0] 39) := ⟨_, rfl⟩
  have hZa : FBox wa w.heap.size := by rw [hwa]; exact FBox.made w 39
  have hBa : Below w.heap.size w wa := by rw [hwa]; exact below_boxed w (.cells #[.int .i64 0, .int .i64 0, .slice none 0 0] 39)
  have hsa : w.heap.size + 1 ≤ wa.heap.size := by rw [hwa]; simp
  have HZa := Lib.hid hZa
  have HBa := Lib.hid hBa
  clear hZa hBa
  have hPP := PrimePower_c wa q
  generalize (ppF q).1 = p at *
  generalize (ppF q).2 = k at *
  have HPP := Lib.hid hPP
  have HWa := Lib.hid hwa
  clear hwa hPP hb
  have hzF := zeroFd
  by_cases h0 : p = 0
  · subst h0
    clear hcase
    go_enter Try.func20, Try.ntmps20
    go_wp2_with fail
    rw [← HWa.out]
    refine (HPP.out).mono ?_
    rintro e w2 ⟨rfl, hb2⟩
    have HZ2 := Lib.hid (HZa.out.step (lo := wa.heap.size) (by omega) hb2)
    have HB2 := Lib.hid (HBa.out.trans (hb2.mono HBa.out.size))
    have hs2 := hb2.size
    clear hb2
    have fz := HZ2.out
    have z0 := fz.c0
    have z1 := fz.c1
    have z2 := fz.c2
    have y0 := fz.f0
    have y1 := fz.f1
    have y2 := fz.f2
    clear fz
    go_wp2
    obtain ⟨r0, r1, r2⟩ := HZ2.out.read (.int .i64 0) (.int .i64 0) (.slice none 0 0)
    refine bodyPost_ret (v := .tuple #[.agg #[.int .i64 0, .int .i64 0, .slice none 0 0], .int .i64 2]) (by simp [results, Try.results20, go_sem, r0, r1, r2]) rfl ⟨⟨none, 0, 0, rfl, rfl, OwnI.nil_ _ _⟩, by first | exact HB2.out | exact below_set3 HB2.out (by omega)⟩
  · have hq : (64 : Int) < q := by omega
    have hp0 : (p == 0) = false := by simp; exact h0
    clear hcase h0
    go_enter Try.func20, Try.ntmps20
    go_wp2_with fail
    rw [← HWa.out]
    refine (HPP.out).mono ?_
    rintro e w2 ⟨rfl, hb2⟩
    have HZ2 := Lib.hid (HZa.out.step (lo := wa.heap.size) (by omega) hb2)
    have HB2 := Lib.hid (HBa.out.trans (hb2.mono HBa.out.size))
    have hs2 := hb2.size
    clear hb2
    have fz := HZ2.out
    have z0 := fz.c0
    have z1 := fz.c1
    have z2 := fz.c2
    have y0 := fz.f0
    have y1 := fz.f1
    have y2 := fz.f2
    clear fz
    go_wp2
    obtain ⟨r0, r1, r2⟩ := HZ2.out.read (.int .i64 0) (.int .i64 0) (.slice none 0 0)
    refine bodyPost_ret (v := .tuple #[.agg #[.int .i64 0, .int .i64 0, .slice none 0 0], .int .i64 2]) (by simp [results, Try.results20, go_sem, r0, r1, r2]) rfl ⟨⟨none, 0, 0, rfl, rfl, OwnI.nil_ _ _⟩, by first | exact HB2.out | exact below_set3 HB2.out (by omega)⟩

set_option maxHeartbeats 8000000 in
set_option maxRecDepth 10000 in
theorem l03Make_c (w : World) (q : Int) (hb : fdB q = true) : Calls Try.prog 36 #[.int .i64 q] w (PostF w (fdP q : Int) (fdK q : Int) (fdY q)) := by
  obtain ⟨hF, _, hpk, hir, _, hq2, hq64⟩ := fd_spec hb
  obtain ⟨wa, hwa⟩ : ∃ wa, wa = w.alloc (.cells #[.int .i64 0, .int .i64 0, .slice none 0 0] 39) := ⟨_, rfl⟩
  have hZa : FBox wa w.heap.size := by rw [hwa]; exact FBox.made w 39
  have hBa : Below w.heap.size w wa := by rw [hwa]; exact below_boxed w (.cells #[.int .i64 0, .int .i64 0, .slice none 0 0] 39)
  have hsa : w.heap.size + 1 ≤ wa.heap.size := by rw [hwa]; simp
  have HZa := Lib.hid hZa
  have HBa := Lib.hid hBa
  clear hZa hBa
  have hPP := l03Split_c wa q
  rw [show fdV q = ((fdP q : Int), (fdK q : Int)) from if_pos hb] at hPP
  have hY : fdY q = poN (fdP q) (fdK q) (leN (fdP q) (fdK q)) := rfl
  rw [hY]
  generalize fdP q = p at *
  generalize fdK q = k at *
  have HPP := Lib.hid hPP
  have HWa := Lib.hid hwa
  obtain ⟨hl64, hli, hll⟩ := leN_spec hir
  have HLi := Lib.hid hli
  have HLl := Lib.hid hll
  obtain ⟨N, hN⟩ : ∃ N, N = leN p k := ⟨_, rfl⟩
  rw [← hN] at HLi HLl hl64 ⊢
  have hFF := hF
  obtain ⟨hp, hp2, hk1, hk6, hF5⟩ := hF
  have HIr := Lib.hid (fun W A c j (hr : RdI W A c (poN p k j)) => l03Irreducible_c W A (k + 1) c (poN p k j) p k hr (poN_len p k j) hFF (poN_in hp k j) (Nat.le_refl _) (Nat.le_refl _))
  clear hwa hPP hpk hir hN hb hY hli hll hF5 hFF
  have hzF := zeroFd
  go_enter Try.func36, Try.ntmps36
  go_wp2_with fail
  rw [← HWa.out]
  refine (HPP.out).mono ?_
  rintro e w2 ⟨rfl, rfl⟩
  go_wp2
  go_loopw [5] (fun v wr => ∃ j : Nat, j ≤ N ∧ v = .int .i64 j ∧ Hid (Below wa.heap.size wa wr)) (fun v _ => N - (intOf v).toNat)
  case atStart => exact ⟨0, Nat.zero_le _, rfl, Lib.hid (Below.refl _ _)⟩
  case round =>
    obtain ⟨j, hj, rfl, HB⟩ := hrel
    have hszr := HB.out.size
    have HDi := Lib.hid (l03Digits_c wr j p k (by omega) hp hp2 (by omega))
    have HBr2 := Lib.hid (Below.refl wr.heap.size wr)
    have HLd := Lib.hid (digL_len p j k)
    go_wp2_with fail
    refine (HDi.out).mono ?_
    rintro e w2b ⟨⟨A2, n2, c2, rfl, hn2, ho2⟩, hb2⟩
    obtain rfl : k = n2 := HLd.out.symm.trans hn2
    have HO2 := Lib.hid ho2
    have HBb2 := Lib.hid hb2
    have hszb := hb2.size
    clear hn2 ho2 hb2
    go_wp2_with (at_builtin; refine wpI_append rfl _ _ rfl wr.heap.size _ _ _ (digL p j k) (1) w2b.heap.size rfl rfl HLd.out (HO2.out.alloc (.cells #[.int .i64 (1)] 2)) (World.cell?_alloc_at _ _ _ _ rfl) (by omega) (by simp; omega) ?_; intro A3 c3 w3 ho3 hg3 ha3)
    have hB3 : Below wr.heap.size wr w3 := (HBb2.out.alloc HBb2.out.size (.cells #[.int .i64 (1)] 2)).trans (below_blk (HO2.out.alloc (.cells #[.int .i64 (1)] 2)) hg3 (Nat.le_refl _) (by simp; omega))
    have HO3 := Lib.hid ho3
    have HB3 := Lib.hid hB3
    clear ho3 hg3 ha3 hB3
    have HO4 := Lib.hid (show OwnI w3 wr.heap.size A3 c3 (poN p k j) from HO3.out)
    by_cases hjN : j < N
    · have HI4 := Lib.hid (HIr.out w3 A3 c3 j HO4.out.rd)
      rw [HLl.out j hjN] at HI4
      go_wp2_with fail
      refine (HI4.out).mono ?_
      rintro e w4 ⟨rfl, hb4⟩
      have HB4 := Lib.hid (HB.out.trans ((HB3.out.trans (hb4.mono HB3.out.size)).mono hszr))
      clear hb4
      go_wp2
      go_roundw
      case rel => exact ⟨j + 1, by omega, by go_num, HB4⟩
      case measure => simp [intOf] <;> omega
    · obtain rfl : j = N := by omega
      have HI4 := Lib.hid (HIr.out w3 A3 c3 j HO4.out.rd)
      rw [HLi.out] at HI4
      go_wp2_with fail
      refine (HI4.out).mono ?_
      rintro e w4 ⟨rfl, hb4⟩
      have HBf := Lib.hid (HBa.out.trans ((HB.out.trans ((HB3.out.trans (hb4.mono HB3.out.size)).mono hszr)).mono HBa.out.size))
      have HZf := Lib.hid (((HZa.out.step (lo := wa.heap.size) (by omega) HB.out).step (lo := wr.heap.size) (by omega) HB3.out).step (lo := w3.heap.size) (by have := HB3.out.size; omega) hb4)
      have HOf := Lib.hid ((HO4.out.below hb4).lower (lo' := w.heap.size + 1) (by omega))
      have HLf := Lib.hid (poN_len p k j)
      clear hb4
      have fz := HZf.out
      have z0 := fz.c0
      have z1 := fz.c1
      have z2 := fz.c2
      have y0 := fz.f0
      have y1 := fz.f1
      have y2 := fz.f2
      clear fz
      go_wp2
      obtain ⟨r0, r1, r2⟩ := HZf.out.read (.int .i64 (p : Int)) (.int .i64 (k : Int)) (.slice A3 (k + 1) c3)
      refine bodyPost_ret (v := .agg #[.int .i64 (p : Int), .int .i64 (k : Int), .slice A3 (k + 1) c3]) (by simp [results, Try.results36, go_sem, r0, r1, r2]) rfl ⟨⟨A3, k + 1, c3, rfl, HLf.out, own_set3 HOf.out (by omega) _ _ _⟩, below_set3 HBf.out (by omega)⟩
end Go.Proofs.Ytbbaeopobnpnmaa
