/-
  ProductHadamard and SylvesterMatrix: contracts of the program's and of the reference's functions. Conditions: those of each theorem.
-/
import Derived.Test.YtjoihaghoahnlaaHad5
import Derived.Test.YtjoihaghoahnlaaStep
namespace Go.Proofs.Ytjoihaghoahnlaa
open Go.RowKit
set_option linter.unusedVariables false
set_option linter.unusedSimpArgs false

/-- The product's element. -/
def prodF (f g : Nat → Nat → Int) (m : Nat) : Nat → Nat → Int := fun x y => f (x / m) (y / m) * g (x % m) (y % m)
theorem PmF.prod {f g : Nat → Nat → Int} {p m : Nat} (hf : PmF f p) (hg : PmF g m) (hm : 0 < m) : PmF (prodF f g m) (p * m) := fun x y hx hy =>
  pm_prod (hf _ _ ((Nat.div_lt_iff_lt_mul hm).2 hx) ((Nat.div_lt_iff_lt_mul hm).2 hy)) (hg _ _ (Nat.mod_lt _ hm) (Nat.mod_lt _ hm))
theorem div_at {m i k : Nat} (hk : k < m) : (i * m + k) / m = i := by
  rw [Nat.add_comm, Nat.add_mul_div_right _ _ (by omega), Nat.div_eq_of_lt hk]; omega
theorem mod_at {m i k : Nat} (hk : k < m) : (i * m + k) % m = k := by
  rw [Nat.add_comm, Nat.add_mul_mod_self_right, Nat.mod_eq_of_lt hk]
theorem prod_at (f g : Nat → Nat → Int) {m i k x y : Nat} (hk : k < m) (hy : y < m) : prodF f g m (i * m + k) (x * m + y) = f i x * g k y := by
  unfold prodF; rw [div_at hk, mod_at hk, div_at hy, mod_at hy]
theorem cast_mul_add (a m b : Nat) : ((a * m + b : Nat) : Int) = (a : Int) * (m : Int) + (b : Int) := by simp

set_option maxHeartbeats 2000000 in
set_option maxRecDepth 100000 in
/-- The reference's product of two squares. -/
theorem l15Product_c (w : World) (A B : Option Addr) (p m c d : Nat) (R S : Spine) (f g : Nat → Nat → Int) (ha : RdM w A c R (sqTo f p p)) (hb : RdM w B d S (sqTo g m m)) (hf : PmF f p) (hg : PmF g m)
    (hp : 1 ≤ p) (hm : 1 ≤ m) (hpm : p * m ≤ 1000) :
    Calls Try.prog 85 #[.slice A p c, .slice B m d] w (PostM w (sqTo (prodF f g m) (p * m) (p * m))) := by
  have H0 := Lib.hid (OwnM.lit0 w (Nat.le_refl w.heap.size) (fun _ => (none, 0)))
  have HA := Lib.hid ha
  have HB := Lib.hid hb
  have HF := Lib.hid hf
  have HG := Lib.hid hg
  have hp2 : p ≤ 1000 := Nat.le_trans (Nat.le_mul_of_pos_right p hm) hpm
  have hm2 : m ≤ 1000 := Nat.le_trans (Nat.le_mul_of_pos_left m hp) hpm
  have HPM := Lib.hid hpm
  obtain ⟨b1, o1, _, _, _, rfl, hb1, _, _, _⟩ := ha.sq_at (i := 0) (j := 0) (by omega) (by omega)
  obtain ⟨b2, o2, _, _, _, rfl, hb2, _, _, _⟩ := hb.sq_at (i := 0) (j := 0) (by omega) (by omega)
  clear ha hb hf hg hpm
  go_enter Try.func85, Try.ntmps85
  go_wp2
  go_loopw [5, 6] (fun o i wr => ∃ (k s : Nat) (A' : Option Addr) (c' : Nat) (R' : Spine), k ≤ p ∧ i = .int .i64 k ∧ o = .slice A' s c' ∧ Hid (s = k * m) ∧ OwnM wr w.heap.size A' c' R' (sqTo (prodF f g m) (p * m) s) ∧ Below w.heap.size w wr) (fun _ i _ => p - (intOf i).toNat)
  case atStart => exact ⟨0, 0, _, _, _, Nat.zero_le _, rfl, rfl, by simp [Hid], H0.out, (Below.refl _ _).alloc (Nat.le_refl _) _⟩
  case round =>
    obtain ⟨k, s, A', c', R', hk, rfl, rfl, hs, ho, hB⟩ := hrel
    have HO := Lib.hid ho
    clear ho
    by_cases hlt : k < p
    · go_wp2
      go_loopw [5, 7] (fun o i wr => ∃ (q s' : Nat) (A' : Option Addr) (c' : Nat) (R' : Spine), q ≤ m ∧ i = .int .i64 q ∧ o = .slice A' s' c' ∧ Hid (s' = k * m + q) ∧ OwnM wr w.heap.size A' c' R' (sqTo (prodF f g m) (p * m) s') ∧ Below w.heap.size w wr) (fun _ i _ => m - (intOf i).toNat)
      case atStart => exact ⟨0, s, A', c', R', Nat.zero_le _, rfl, rfl, by rw [Nat.add_zero]; exact hs, HO.out, hB⟩
      case round =>
        obtain ⟨q, s', A2, c2, R2, hq, rfl, rfl, hs', ho2, hB2⟩ := hrel
        obtain ⟨wo, rfl⟩ : ∃ wo : World, wo = wr := ⟨_, rfl⟩
        have HO2 := Lib.hid ho2
        have hz := hB2.size
        clear ho2
        by_cases hltq : q < m
        · have HI0 := Lib.hid (OwnI.lit0 wo (Nat.le_refl wo.heap.size))
          go_wp2
          go_loopw [8, 9] (fun r i wi => ∃ (x t : Nat) (A3 : Option Addr) (c3 : Nat), x ≤ p ∧ i = .int .i64 x ∧ r = .slice A3 t c3 ∧ Hid (t = x * m) ∧ OwnI wi wo.heap.size A3 c3 (rowTo (prodF f g m) s' t) ∧ Below wo.heap.size wo wi) (fun _ i _ => p - (intOf i).toNat)
          case atStart => exact ⟨0, 0, _, _, Nat.zero_le _, rfl, rfl, by simp [Hid], HI0.out, (Below.refl _ _).alloc (Nat.le_refl _) _⟩
          case round =>
            obtain ⟨x, t, A3, c3, hx, rfl, rfl, ht, hi, hB3⟩ := hrel
            have HI := Lib.hid hi
            clear hi
            by_cases hltx : x < p
            · go_wp2
              go_loopw [8, 10] (fun r i wi => ∃ (y t' : Nat) (A4 : Option Addr) (c4 : Nat), y ≤ m ∧ i = .int .i64 y ∧ r = .slice A4 t' c4 ∧ Hid (t' = x * m + y) ∧ OwnI wi wo.heap.size A4 c4 (rowTo (prodF f g m) s' t') ∧ Below wo.heap.size wo wi) (fun _ i _ => m - (intOf i).toNat)
              case atStart => exact ⟨0, t, A3, c3, Nat.zero_le _, rfl, rfl, by rw [Nat.add_zero]; exact ht, HI.out, hB3⟩
              case round =>
                obtain ⟨y, t', A4, c4, hy, rfl, rfl, ht', hi4, hB4⟩ := hrel
                have HI4 := Lib.hid hi4
                have hz4 := hB4.size
                have hBw : Below w.heap.size w wr := hB2.trans (hB4.mono hz)
                clear hi4
                by_cases hlty : y < m
                · obtain ⟨b3, o3, b4, o4, C4, e, _, hc1, hb4, hc2⟩ := HA.out.sq_at (i := k) (j := x) hlt hltx
                  injection e with e
                  injection e with e1 e2
                  subst e1 e2
                  obtain ⟨b5, o5, b6, o6, C6, e, _, hc3, hb6, hc4⟩ := HB.out.sq_at (i := q) (j := y) hltq hlty
                  injection e with e
                  injection e with e1 e2
                  subst e1 e2
                  have hx1 := (hBw.cell (p := ⟨b1, o1 + k, none⟩) hb1).trans hc1
                  have hx2 := (hBw.cell (p := ⟨b4, o4 + x, none⟩) hb4).trans hc2
                  have hx3 := (hBw.cell (p := ⟨b2, o2 + q, none⟩) hb2).trans hc3
                  have hx4 := (hBw.cell (p := ⟨b6, o6 + y, none⟩) hb6).trans hc4
                  have hpm := pm_prod (HF.out k x hlt hltx) (HG.out q y hltq hlty)
                  have hw1 : IntKind.i64.wrap (f k x * g q y) = f k x * g q y := IntWalk.i64_in _ (by omega)
                  have HV := Lib.hid (show prodF f g m s' t' = f k x * g q y by rw [hs'.out, ht'.out]; exact prod_at f g hltq hlty)
                  have HT := Lib.hid (show t' ≤ 1000 by rw [ht'.out]; have := HPM.out; have h2 : x * m + m ≤ p * m := by rw [← Nat.succ_mul]; exact Nat.mul_le_mul_right m hltx
                                                        omega)
                  have ht1000 := HT.out
                  clear hc1 hc2 hc3 hc4 hpm
                  go_wp2
                  go_region_law (
                    (refine stepI_append rfl _ _ rfl wo.heap.size A4 c4 t' (rowTo (prodF f g m) s' t') (f k x * g q y) wr.heap.size (by rfl) (by rfl) (length_rowTo _ s' t') (by exact HI4.out.alloc _) (by exact World.cell?_alloc_at _ _ _ _ rfl) (by omega) (by simp; omega) ?_
                     intro A5 c5 w5 ho5 hg5 ha5))
                  all_goals
                    have hB5 : Below wo.heap.size wo w5 := Below.grown (by first | exact (hB4.alloc hz4 _).drew | exact (hB4.drew).alloc hz4 _) hg5 (by simp; omega) HI4.out.blk_ge
                    have HO5 := Lib.hid (show OwnI w5 wo.heap.size A5 c5 (rowTo (prodF f g m) s' (t' + 1)) by rw [rowTo_succ, HV.out]; exact ho5)
                    have HT' := Lib.hid (show t' + 1 = x * m + (y + 1) by rw [ht'.out]; omega)
                    clear ho5 hg5 ha5 hw1
                    go_wp2
                    go_roundw
                    case rel => exact ⟨y + 1, t' + 1, A5, c5, by omega, by go_num, rfl, HT'.out, HO5.out, hB5⟩
                    case measure => simp [intOf]; omega
                · obtain rfl : y = m := by omega
                  have HT' := Lib.hid (show t' = (x + 1) * y by rw [ht'.out, Nat.succ_mul])
                  go_wp2
                  go_roundw
                  case rel => exact ⟨x + 1, t', A4, c4, by omega, by go_num, rfl, HT'.out, HI4.out, hB4⟩
                  case measure => simp [intOf]; omega
            · obtain rfl : x = p := by omega
              have ht2 := ht.out
              have HS1 := Lib.hid (show s' ≤ 1000 by
                rw [hs'.out]
                have h1 := HPM.out
                have h2 : k * m + m ≤ x * m := by rw [← Nat.succ_mul]; exact Nat.mul_le_mul_right m hlt
                omega)
              have hs1000 := HS1.out
              subst ht2
              have hBw : Below w.heap.size w wr := hB2.trans (hB3.mono hz)
              have hz1 := hBw.size
              have HO1 := Lib.hid ((HO2.out.below hB3).alloc (.cells #[.slice A3 (x * m) c3] 22))
              have HI1 := Lib.hid ((HI.out.lower hz).alloc (.cells #[.slice A3 (x * m) c3] 22))
              have HAp := Lib.hid (later_apart HO2.out HI.out)
              go_wp2_with (at_builtin
                           refine wpM_append rfl _ _ rfl w.heap.size _ _ _ R2 (sqTo (prodF f g m) (x * m) s') A3 (x * m) c3 (rowTo (prodF f g m) s' (x * m)) wr.heap.size rfl rfl (length_sqTo _ _ s') (length_rowTo _ s' _) HO1.out HI1.out HAp.out (World.cell?_alloc_at _ _ _ _ rfl) (by omega) (by simp; omega) ?_
                           intro A5 c5 R5 w5 ho5 hg5 ha5)
              have hB5 : Below w.heap.size w w5 := (hBw.alloc hz1 _).trans (below_blkM HO1.out hg5 (Nat.le_refl _) (by simp; omega))
              have HO5 := Lib.hid (show OwnM w5 w.heap.size A5 c5 R5 (sqTo (prodF f g m) (x * m) (s' + 1)) by rw [sqTo_succ]; exact ho5)
              have HT' := Lib.hid (show s' + 1 = k * m + (q + 1) by rw [hs'.out]; omega)
              clear ho5 hg5 ha5
              go_wp2
              go_roundw
              case rel => exact ⟨q + 1, s' + 1, A5, c5, R5, by omega, by go_num, rfl, HT'.out, HO5.out, hB5⟩
              case measure => simp [intOf]; omega
        · obtain rfl : q = m := by omega
          have HT' := Lib.hid (show s' = (k + 1) * q by rw [hs'.out, Nat.succ_mul])
          go_wp2
          go_roundw
          case rel => exact ⟨k + 1, s', A2, c2, R2, by omega, by go_num, rfl, HT'.out, HO2.out, hB2⟩
          case measure => simp [intOf]; omega
    · obtain rfl : k = p := by omega
      have hs2 := hs.out
      subst hs2
      have HL := Lib.hid (length_sqTo (prodF f g m) (k * m) (k * m))
      go_wp2
      go_ret
      exact ⟨⟨A', k * m, c', R', rfl, HL.out, HO.out⟩, hB⟩
end Go.Proofs.Ytjoihaghoahnlaa
