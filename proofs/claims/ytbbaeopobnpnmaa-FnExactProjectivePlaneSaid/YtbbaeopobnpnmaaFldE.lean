/-
  Valid fields, their sizes and squares: ValidField, fieldSize, FieldSquares of the program, l03Size, l03Squares of the reference. Conditions: those of each theorem.
-/
import Derived.Test.YtbbaeopobnpnmaaFldD
import Derived.Test.YtbbaeopobnpnmaaSort
import Derived.Test.YtbbaeopobnpnmaaCmpt
import Derived.Test.YtbbaeopobnpnmaaHas
namespace Go.Proofs.Ytbbaeopobnpnmaa
open Go.RowKit
set_option linter.unusedVariables false
set_option linter.unusedSimpArgs false

/-- A valid field. -/
structure FldV (p k : Nat) (poly : List Int) : Prop where
  ok : FldOk p k
  len : poly.length = k + 1
  dig : InP p poly
  last : nth poly k = 1
  irr : irrB p k poly = true
  prime : (factorsZ (p : Int)).length = 1
theorem fdY_valid {q : Int} (h : fdB q = true) : FldV (fdP q) (fdK q) (fdY q) := by
  obtain ⟨hF, _, _, hir, hpr, _⟩ := fd_spec h
  have h2 := leN_spec hir
  exact ⟨hF, poN_len _ _ _, poN_in hF.1 _ _, by
    have := nth_app_eq (xs := digL (fdP q) (leN (fdP q) (fdK q)) (fdK q)) (y := 1)
    rwa [digL_len] at this, h2.2.1, hpr⟩

set_option maxHeartbeats 8000000 in
set_option maxRecDepth 10000 in
theorem ValidField_c (w : World) (p k : Nat) (A : Option Addr) (n c : Nat) (poly : List Int) (hV : FldV p k poly) (hP : RdI w A c poly) (hn1 : n ≤ k + 1) (hn2 : k + 1 ≤ n) :
    Calls Try.prog 43 #[.agg #[.int .i64 (p : Int), .int .i64 (k : Int), .slice A n c]] w (PostV w (.bool true)) := by
  obtain ⟨hF, hL, hI, hla, hir, hpr⟩ := hV
  have hFF := hF
  obtain ⟨hp, hp2, hk1, hk6, hF5⟩ := hF
  have hPn : poly.length = n := by omega
  have HX0 := Lib.hid (FldC.made w p k A n c 39)
  have HBx0 := Lib.hid (below_boxed w (.cells #[.int .i64 (p : Int), .int .i64 (k : Int), .slice A n c] 39))
  obtain ⟨wb, hwb⟩ : ∃ wb, wb = w.alloc (.cells #[.int .i64 (p : Int), .int .i64 (k : Int), .slice A n c] 39) := ⟨_, rfl⟩
  rw [← hwb] at HX0 HBx0
  have HWb := Lib.hid hwb
  have hPr := implIsPrime_c wb (p : Int)
  rw [show primeI (p : Int) = true from decide_eq_true hpr] at hPr
  have HPr := Lib.hid hPr
  have HPw := Lib.hid (fun W => powerUpTo_c W p k hp hp2 hF5)
  obtain ⟨P, hPP⟩ : ∃ P, P = p ^ k := ⟨_, rfl⟩
  rw [← hPP] at HPw
  have hP64 : ¬ (64 : Int) < (P : Int) := by omega
  have HP := Lib.hid hP
  have HN := Lib.hid hPn
  have HIr := Lib.hid (fun W (hr : RdI W A c poly) => irreducible_c W A n c poly p k hr hPn hFF hI hn1 hn2)
  rw [hir] at HIr
  have HI := Lib.hid hI
  have HLa := Lib.hid hla
  have HIn := Lib.hid (fun W j (hj : j < n) => show Calls Try.prog 66 #[.int .i64 (nth poly j), .int .i64 0, .int .i64 ((p : Int) - 1)] W fun e w' => e = .returned (.bool true) ∧ W = w' from by
    have := within_c (nth poly j) 0 ((p : Int) - 1) W
    rwa [inB_true.2 (by have := hI j (by omega); omega)] at this)
  have hkl : ¬ (k : Int) < 1 := by omega
  have hwp : IntKind.i64.wrap ((p : Int) - 1) = (p : Int) - 1 := IntWalk.i64_in _ (by omega)
  have hwk : IntKind.i64.wrap ((k : Int) + 1) = (k : Int) + 1 := IntWalk.i64_in _ (by omega)
  have hne : ((n : Int) != (k : Int) + 1) = false := by simp; omega
  have hc0 := HX0.out.c0
  have hc1 := HX0.out.c1
  clear hwb hPr hPP hP hPn hI hla hir hpr hL hFF
  go_enter Try.func43, Try.ntmps43
  go_wp2_with fail
  rw [← HWb.out]
  refine (HPr.out).mono ?_
  rintro e w2 ⟨rfl, hb2⟩
  clear hc0 hc1
  have HX2 := Lib.hid (HX0.out.below hb2)
  have HB2 := Lib.hid (HBx0.out.trans (hb2.mono HBx0.out.size))
  have hc0 := HX2.out.c0
  have hc1 := HX2.out.c1
  clear hb2
  go_wp2_with fail
  refine (HPw.out _).mono ?_
  rintro e w' ⟨rfl, rfl⟩
  have hc2 := HX2.out.c2
  obtain ⟨b, off, eA, hbA, hck⟩ := (HP.out.below HB2.out).at_ k (by rw [HN.out]; omega)
  rw [HLa.out] at hck
  have hk0 : (0 : Int) ≤ (k : Int) := by omega
  have hkn : (k : Int) < (n : Int) := by omega
  have HA := Lib.hid eA
  rw [HA.out] at hc2
  clear eA
  go_wp2
  go_quiet ((go_at_call 62; first | exact quiet_n (sizeI_c _ _ _ _) | (with_reducible exact quiet_drN (sizeI_c _ _ _ _)) | (with_reducible exact quiet_dr (sizeI_c _ _ _ _)) | (with_reducible exact quiet_w2 (sizeI_c _ _ _ _))))
  have HXq := Lib.hid (HX2.out.drewN nq)
  have HBq := Lib.hid (below_drewN HB2.out nq)
  have HPq := Lib.hid (HP.out.below HBq.out)
  clear hc0 hc1 hc2 hck hne hwk
  generalize w2.drewN nq = wq at *
  have hc0 := HXq.out.c0
  have hc2 := HXq.out.c2
  rw [HA.out] at hc2
  go_wp2
  go_loop [41] (fun v => ∃ j : Nat, j ≤ n ∧ v = .int .i64 j) (fun v => n - (intOf v).toNat)
  case atStart => exact ⟨0, Nat.zero_le _, rfl⟩
  case round =>
    obtain ⟨j, hj, rfl⟩ := hrel
    by_cases hjn : j < n
    · obtain ⟨b2, o2, e2, hb2, hcj⟩ := HPq.out.at_ j (by rw [HN.out]; exact hjn)
      rw [HA.out] at e2
      injection e2 with e2
      injection e2 with e3 e4
      subst e3 e4
      have HIj := Lib.hid (HIn.out wq j hjn)
      have hj0 : (0 : Int) ≤ (j : Int) := by omega
      have hj1 : (j : Int) < (n : Int) := by omega
      generalize nth poly j = y at *
      go_wp2_with fail
      refine (HIj.out).mono ?_
      rintro e w' ⟨rfl, rfl⟩
      go_wp2
      go_round
      case rel => exact ⟨j + 1, by omega, by go_num⟩
      case measure => simp [intOf] <;> omega
    · obtain rfl : j = n := by omega
      have HIq := Lib.hid (HIr.out wq HPq.out)
      rw [HA.out] at HIq
      go_wp2_with fail
      refine (HIq.out).mono ?_
      rintro e w5 ⟨rfl, hb5⟩
      have HBf := Lib.hid (HBq.out.trans (hb5.mono HBq.out.size))
      go_wp2
      go_ret
      exact ⟨rfl, HBf.out⟩

set_option maxHeartbeats 4000000 in
theorem fieldSize_c (w : World) (p k : Nat) (A : Option Addr) (n c : Nat) (hF : FldOk p k) :
    Calls Try.prog 44 #[.agg #[.int .i64 (p : Int), .int .i64 (k : Int), .slice A n c]] w (PostV w (.int .i64 ((p ^ k : Nat) : Int))) := by
  have HPw := Lib.hid (fun W => powerUpTo_c W p k hF.1 hF.2.1 hF.2.2.2.2)
  obtain ⟨P, hP⟩ : ∃ P, P = p ^ k := ⟨_, rfl⟩
  rw [← hP] at HPw ⊢
  clear hP hF
  go_enter Try.func44, Try.ntmps44
  go_wp2_with fail
  refine (HPw.out _).mono ?_
  rintro e w' ⟨rfl, rfl⟩
  go_wp2
  go_ret
  exact ⟨rfl, below_boxed _ _⟩

/-- The squares of 1 to m. -/
def fsqL (p k : Nat) (poly : List Int) (m : Nat) : List Int := (List.range m).map fun i => ((mulF p k poly (i + 1) (i + 1) : Nat) : Int)
theorem fsqL_succ (p k : Nat) (poly : List Int) (m : Nat) : fsqL p k poly (m + 1) = fsqL p k poly m ++ [((mulF p k poly (m + 1) (m + 1) : Nat) : Int)] := by simp [fsqL, List.range_succ]
theorem fsqL_len (p k : Nat) (poly : List Int) (m : Nat) : (fsqL p k poly m).length = m := by simp [fsqL]

set_option maxHeartbeats 8000000 in
set_option maxRecDepth 10000 in
theorem FieldSquares_c (w : World) (p k : Nat) (A : Option Addr) (n c : Nat) (poly : List Int) (hV : FldV p k poly) (hP : RdI w A c poly) (hn1 : n ≤ k + 1) (hn2 : k + 1 ≤ n) :
    Calls Try.prog 21 #[.agg #[.int .i64 (p : Int), .int .i64 (k : Int), .slice A n c]] w (PostS w (putsL (fsqL p k poly (p ^ k - 1)))) := by
  have hF := hV.ok
  have hPn : poly.length = n := by have := hV.len; omega
  have hF2 := hF.2.2.2.2
  have hp1 : 1 ≤ p ^ k := by have := Nat.pow_le_pow_right (n := p) (by have := hF.1; omega) (Nat.zero_le k); simpa using this
  have HX0 := Lib.hid (FldC.made w p k A n c 39)
  have HBx0 := Lib.hid (below_boxed w (.cells #[.int .i64 (p : Int), .int .i64 (k : Int), .slice A n c] 39))
  obtain ⟨wb, hwb⟩ : ∃ wb, wb = w.alloc (.cells #[.int .i64 (p : Int), .int .i64 (k : Int), .slice A n c] 39) := ⟨_, rfl⟩
  rw [← hwb] at HX0 HBx0
  have HWb := Lib.hid hwb
  have HVf := Lib.hid (ValidField_c wb p k A n c poly hV (hP.below HBx0.out) hn1 hn2)
  have HSz := Lib.hid (fun W => fieldSize_c W p k A n c hF)
  have HMu := Lib.hid (fun W a (ha : a ≤ 64) (hr : RdI W A c poly) => product_c W p k A n c a a poly hF (by omega) (by omega) hr hPn hn1 hn2 hV.dig)
  have HP := Lib.hid hP
  obtain ⟨Q, hQ⟩ : ∃ Q, Q = p ^ k := ⟨_, rfl⟩
  rw [← hQ] at HSz hF2 hp1 ⊢
  have hc0 := HX0.out.c0
  have hc1 := HX0.out.c1
  have hc2 := HX0.out.c2
  clear hwb hV hP hPn hF hQ
  go_enter Try.func21, Try.ntmps21
  go_wp2_with fail
  rw [← HWb.out]
  refine (HVf.out).mono ?_
  rintro e w2 ⟨rfl, hb2⟩
  have HX2 := Lib.hid (HX0.out.below hb2)
  have HB2 := Lib.hid (HBx0.out.trans (hb2.mono HBx0.out.size))
  clear hc0 hc1 hc2 hb2
  have HO0 := Lib.hid (OwnI.nil_ w2 (w.heap.size + 1))
  go_wp2
  go_loopw [3, 4] (fun o v wr => ∃ (i : Nat) (A' : Option Addr) (c' : Nat), i < Q ∧ v = .int .i64 ((i + 1 : Nat) : Int) ∧ o = .slice A' i c' ∧ Hid (OwnI wr (w.heap.size + 1) A' c' (fsqL p k poly i)) ∧ Hid (FldC wr w.heap.size p k A n c) ∧ Hid (Below w.heap.size w wr)) (fun _ v _ => Q + 1 - (intOf v).toNat)
  case atStart => exact ⟨0, none, 0, hp1, rfl, rfl, HO0, HX2, HB2⟩
  case round =>
    obtain ⟨i, A', c', hi, rfl, rfl, HO, HX, HB⟩ := hrel
    have hc0 := HX.out.c0
    have hc1 := HX.out.c1
    have hc2 := HX.out.c2
    go_wp2_with fail
    refine (HSz.out _).mono ?_
    rintro e w4 ⟨rfl, hb4⟩
    clear hc0 hc1 hc2
    have HX4 := Lib.hid (HX.out.below hb4)
    have HO4 := Lib.hid (HO.out.below hb4)
    have HB4 := Lib.hid (HB.out.trans (hb4.mono HB.out.size))
    clear hb4
    have hc0 := HX4.out.c0
    have hc1 := HX4.out.c1
    have hc2 := HX4.out.c2
    by_cases hiq : i + 1 < Q
    · have HMi := Lib.hid (HMu.out w4 (i + 1) (by omega) (HP.out.below HB4.out))
      have hiq2 : ((i + 1 : Nat) : Int) < (Q : Int) := by omega
      have HSu := Lib.hid (fsqL_succ p k poly i)
      have HLx := Lib.hid (fsqL_len p k poly i)
      generalize mulF p k poly (i + 1) (i + 1) = u at *
      go_wp2_with fail
      refine (HMi.out).mono ?_
      rintro e w5 ⟨rfl, hb5⟩
      clear hc0 hc1 hc2
      have HX5 := Lib.hid (HX4.out.below hb5)
      have HO5 := Lib.hid (HO4.out.below hb5)
      have HB5 := Lib.hid (HB4.out.trans (hb5.mono HB4.out.size))
      have hsz5 := HB5.out.size
      have hxw : w.heap.size < w5.heap.size := HX5.out.lt
      clear hb5
      go_wp2_with (at_builtin; refine wpI_append rfl _ _ rfl (w.heap.size + 1) _ _ _ (fsqL p k poly i) ((u : Int)) w5.heap.size rfl rfl HLx.out (HO5.out.alloc (.cells #[.int .i64 ((u : Int))] 2)) (World.cell?_alloc_at _ _ _ _ rfl) (by omega) (by simp; omega) ?_; intro A3 c3 w3 ho3 hg3 ha3)
      have HB3 := Lib.hid (show Below w.heap.size w w3 from (HB5.out.alloc HB5.out.size (.cells #[.int .i64 ((u : Int))] 2)).trans (below_blk (HO5.out.alloc (.cells #[.int .i64 ((u : Int))] 2)) hg3 (by omega) (by simp; omega)))
      have HX6 := Lib.hid (show FldC w3 w.heap.size p k A n c from HX5.out.step (lo := w.heap.size + 1) (by omega) (((Below.refl (w.heap.size + 1) w5).alloc hxw (.cells #[.int .i64 ((u : Int))] 2)).trans (below_blk (HO5.out.alloc (.cells #[.int .i64 ((u : Int))] 2)) hg3 (Nat.le_refl _) (by simp; omega))))
      have HO3 := Lib.hid ho3
      clear ho3 hg3 ha3
      have HO6 := Lib.hid (show OwnI w3 (w.heap.size + 1) A3 c3 (fsqL p k poly (i + 1)) from by rw [HSu.out]; exact HO3.out)
      go_wp2
      go_roundw
      case rel => exact ⟨i + 1, A3, c3, hiq, by go_num, rfl, HO6, HX6, HB3⟩
      case measure => simp [intOf] <;> omega
    · obtain rfl : Q = i + 1 := by omega
      have HSo := Lib.hid (sort_c w4 HO4.out (fsqL_len p k poly i) (by omega))
      have hiq2 : ¬ ((i + 1 : Nat) : Int) < ((i + 1 : Nat) : Int) := by omega
      clear hc0 hc1 hc2
      go_wp2_with fail
      refine (HSo.out).mono ?_
      rintro e w5 ⟨rfl, ho5, hg5⟩
      have hb5 : Below w.heap.size w w5 := HB4.out.trans (below_blk HO4.out hg5 (by omega) HB4.out.size)
      have HCo := Lib.hid (compact_c w5 ho5 (by rw [sortL_len, fsqL_len]) (by omega))
      have HO5 := Lib.hid ho5
      have HB5 := Lib.hid hb5
      have HEq := Lib.hid (cmpt_puts (fsqL p k poly i))
      rw [HEq.out] at HCo
      clear ho5 hg5 hb5
      go_wp2_with fail
      refine (HCo.out).mono ?_
      rintro e w6 ⟨rfl, ho6, hg6⟩
      have HB6 := Lib.hid (show Below w.heap.size w w6 from HB5.out.trans (below_blk HO5.out hg6 (by omega) HB5.out.size))
      have HO6 := Lib.hid (ho6.lower (lo' := w.heap.size) (by omega))
      clear ho6 hg6
      go_wp2
      go_ret
      exact ⟨⟨_, _, _, rfl, rfl, HO6.out⟩, HB6.out⟩

set_option maxHeartbeats 4000000 in
theorem l03Size_c (w : World) (Bf p k : Nat) (A : Option Addr) (n c : Nat) (hX : FldC w Bf p k A n c) (hF : FldOk p k) :
    Calls Try.prog 58 #[.pointer (some ⟨Bf, 0, none⟩)] w (PostV w (.int .i64 ((p ^ k : Nat) : Int))) := by
  have HPw := Lib.hid (fun W => l03Power_c W p k hF.1 hF.2.1 hF.2.2.2.2)
  obtain ⟨P, hP⟩ : ∃ P, P = p ^ k := ⟨_, rfl⟩
  rw [← hP] at HPw ⊢
  have hc0 := hX.c0
  have hc1 := hX.c1
  clear hP hF hX
  go_enter Try.func58, Try.ntmps58
  go_wp2
  go_quiet ((go_at_call 75; first | (with_reducible exact quiet_drN (HPw.out _)) | (with_reducible exact quiet_dr (HPw.out _)) | (with_reducible exact quiet_w2 (HPw.out _))))
  clear hc0 hc1
  go_wp2
  go_ret
  exact ⟨rfl, below_drewN (Below.refl _ _) nq⟩

set_option maxHeartbeats 8000000 in
set_option maxRecDepth 10000 in
theorem l03Squares_c (w : World) (Bf p k : Nat) (A : Option Addr) (n c : Nat) (poly : List Int) (hX : FldC w Bf p k A n c) (hF : FldOk p k) (hP : RdI w A c poly) (hPn : poly.length = n) (hn1 : n ≤ k + 1) (hn2 : k + 1 ≤ n) (hI : InP p poly) :
    Calls Try.prog 37 #[.pointer (some ⟨Bf, 0, none⟩)] w (PostS w (putsL (fsqL p k poly (p ^ k - 1)))) := by
  have hF2 := hF.2.2.2.2
  have hp1 : 1 ≤ p ^ k := by have := Nat.pow_le_pow_right (n := p) (by have := hF.1; omega) (Nat.zero_le k); simpa using this
  have HX0 := Lib.hid hX
  have HSz := Lib.hid (fun W (h : FldC W Bf p k A n c) => l03Size_c W Bf p k A n c h hF)
  have HMu := Lib.hid (fun W a (ha : a ≤ 64) (h : FldC W Bf p k A n c) (hr : RdI W A c poly) => l03Mul_c W Bf p k A n c a a poly h hF (by omega) (by omega) hr hPn hn1 hn2 hI)
  have HP := Lib.hid hP
  obtain ⟨Q, hQ⟩ : ∃ Q, Q = p ^ k := ⟨_, rfl⟩
  rw [← hQ] at HSz hF2 hp1 ⊢
  have HI0 := Lib.hid (show OwnI (w.alloc (.cells #[] 2)) w.heap.size (some ⟨w.heap.size, 0, none⟩) 0 (putsL (fsqL p k poly 0)) from OwnI.lit0 w (Nat.le_refl w.heap.size))
  have HIb := Lib.hid ((Below.refl w.heap.size w).alloc (Nat.le_refl _) (.cells #[] 2))
  clear hX hP hPn hF hQ hI
  go_enter Try.func37, Try.ntmps37
  go_wp2
  go_loopw [3, 4] (fun o v wr => ∃ (i s : Nat) (A' : Option Addr) (c' : Nat), i < Q ∧ v = .int .i64 ((i + 1 : Nat) : Int) ∧ o = .slice A' s c' ∧ s ≤ i ∧ Hid ((putsL (fsqL p k poly i)).length = s) ∧ Hid (OwnI wr w.heap.size A' c' (putsL (fsqL p k poly i))) ∧ Hid (Below w.heap.size w wr)) (fun _ v _ => Q + 1 - (intOf v).toNat)
  case atStart => exact ⟨0, 0, _, _, hp1, rfl, rfl, Nat.le_refl _, Lib.hid rfl, HI0, HIb⟩
  case round =>
    obtain ⟨i, s, A', c', hi, rfl, rfl, hs, HL, HO, HB⟩ := hrel
    have HSr := Lib.hid (HSz.out wr (HX0.out.below HB.out))
    go_wp2_with fail
    refine (HSr.out).mono ?_
    rintro e w4 ⟨rfl, hb4⟩
    have HO4 := Lib.hid (HO.out.below hb4)
    have HB4 := Lib.hid (HB.out.trans (hb4.mono HB.out.size))
    clear hb4
    by_cases hiq : i + 1 < Q
    · have HMi := Lib.hid (HMu.out w4 (i + 1) (by omega) (HX0.out.below HB4.out) (HP.out.below HB4.out))
      have hiq2 : ((i + 1 : Nat) : Int) < (Q : Int) := by omega
      have HSu := Lib.hid (show putsL (fsqL p k poly (i + 1)) = putL (putsL (fsqL p k poly i)) ((mulF p k poly (i + 1) (i + 1) : Nat) : Int) by rw [fsqL_succ, putsL_snoc])
      have HLe := Lib.hid (show (putsL (fsqL p k poly (i + 1))).length ≤ i + 1 by have := putsL_len (fsqL p k poly (i + 1)); rwa [fsqL_len] at this)
      have HPu := Lib.hid (fun W (hr : RdI W A' c' (putsL (fsqL p k poly i))) => l00Put_c W A' s c' (putsL (fsqL p k poly i)) ((mulF p k poly (i + 1) (i + 1) : Nat) : Int) hr HL.out (by omega))
      rw [← HSu.out] at HPu
      generalize mulF p k poly (i + 1) (i + 1) = u at *
      go_wp2_with fail
      refine (HMi.out).mono ?_
      rintro e w5 ⟨rfl, hb5⟩
      have HPw := Lib.hid (HPu.out w5 (HO4.out.below hb5).rd)
      have HB5 := Lib.hid (HB4.out.trans (hb5.mono HB4.out.size))
      clear hb5
      go_wp2_with fail
      refine (HPw.out).mono ?_
      rintro e w6 ⟨⟨A6, n6, c6, rfl, hn6, ho6⟩, hb6⟩
      have HO6 := Lib.hid (ho6.lower (lo' := w.heap.size) HB5.out.size)
      have HB6 := Lib.hid (HB5.out.trans (hb6.mono HB5.out.size))
      have HN6 := Lib.hid hn6
      have hn69 : n6 ≤ i + 1 := by rw [← hn6]; exact HLe.out
      clear ho6 hb6 hn6
      go_wp2
      go_roundw
      case rel => exact ⟨i + 1, n6, A6, c6, hiq, by go_num, rfl, hn69, HN6, HO6, HB6⟩
      case measure => simp [intOf] <;> omega
    · obtain rfl : Q = i + 1 := by omega
      have hiq2 : ¬ ((i + 1 : Nat) : Int) < ((i + 1 : Nat) : Int) := by omega
      go_wp2
      go_ret
      exact ⟨⟨_, _, _, rfl, HL.out, HO4.out⟩, HB4.out⟩
end Go.Proofs.Ytbbaeopobnpnmaa
