/-
  Identities of squares: l08Holds of the reference at the kinds 1 and 8. Conditions: those of each theorem.
-/
import Derived.Test.YtdcegepkgcflpaaSqr2
namespace Go.Proofs.Ytdcegepkgcflpaa
open Go.RowKit
set_option linter.unusedVariables false
set_option linter.unusedSimpArgs false

/-- A square that lies in memory: rows of n numbers each. -/
structure Grid (w : World) (n b o : Nat) (fb fo fc : Nat → Nat) (E : Nat → Nat → Int) : Prop where
  lt : b < w.heap.size
  row : ∀ x, x < n → w.cell? ⟨b, o + x, none⟩ = some (.slice (some ⟨fb x, fo x, none⟩) n (fc x))
  rlt : ∀ x, x < n → fb x < w.heap.size
  ent : ∀ x y, x < n → y < n → w.cell? ⟨fb x, fo x + y, none⟩ = some (.int .i64 (E x y))
theorem Grid.below {w w' : World} {n b o : Nat} {fb fo fc : Nat → Nat} {E : Nat → Nat → Int} (h : Grid w n b o fb fo fc E) {lo : Nat} (hb : Below lo w w') (hl : w.heap.size ≤ lo) : Grid w' n b o fb fo fc E :=
  ⟨by have := h.lt; have := hb.size; exact Nat.lt_of_lt_of_le h.lt (hb.mono hl).size, fun x hx => ((hb.cell (p := ⟨b, o + x, none⟩) (Nat.lt_of_lt_of_le h.lt hl)).trans (h.row x hx)), fun x hx => Nat.lt_of_lt_of_le (h.rlt x hx) (hb.mono hl).size, fun x y hx hy => (hb.cell (p := ⟨fb x, fo x + y, none⟩) (Nat.lt_of_lt_of_le (h.rlt x hx) hl)).trans (h.ent x y hx hy)⟩
theorem Grid.drewN {w : World} {n b o : Nat} {fb fo fc : Nat → Nat} {E : Nat → Nat → Int} (h : Grid w n b o fb fo fc E) (m : Nat) : Grid (w.drewN m) n b o fb fo fc E :=
  h.below (below_drewN (Below.refl w.heap.size w) m) (Nat.le_refl _)
theorem grid_of {w : World} {A : Option Addr} {c : Nat} {R : Spine} {a : List (List Int)} (hr : RdM w A c R a) {n : Nat} (hn : a.length = n) (h1 : 1 ≤ n) (hl : ∀ x, x < n → (Go.Proofs.Ytdcegepkgcflpaa.row a x).length = n) :
    ∃ b o fb fo, A = some ⟨b, o, none⟩ ∧ Grid w n b o fb fo (fun x => (R x).2) (fun x y => nth (Go.Proofs.Ytdcegepkgcflpaa.row a x) y) := by
  obtain ⟨b, o, e, hb, _⟩ := hr.at_ 0 (by omega)
  subst e
  have hrow : ∀ x, x < n → ∃ q : Nat × Nat, (R x).1 = some ⟨q.1, q.2, none⟩ ∧ q.1 < w.heap.size ∧ ∀ y, y < n → w.cell? ⟨q.1, q.2 + y, none⟩ = some (.int .i64 (nth (Go.Proofs.Ytdcegepkgcflpaa.row a x) y)) := fun x hx => by
    have hR := hr.rows x (by omega)
    obtain ⟨b1, o1, e1, hb1, _⟩ := hR.at_ 0 (by rw [hl x hx]; omega)
    refine ⟨(b1, o1), e1, hb1, fun y hy => ?_⟩
    obtain ⟨b2, o2, e2, hb2, hc2⟩ := hR.at_ y (by rw [hl x hx]; omega)
    rw [e1] at e2
    injection e2 with e2
    injection e2 with e3 e4
    subst e3 e4
    exact hc2
  have hex : ∃ f : Nat → Nat × Nat, ∀ x, x < n → (R x).1 = some ⟨(f x).1, (f x).2, none⟩ ∧ (f x).1 < w.heap.size ∧ ∀ y, y < n → w.cell? ⟨(f x).1, (f x).2 + y, none⟩ = some (.int .i64 (nth (Go.Proofs.Ytdcegepkgcflpaa.row a x) y)) :=
    ⟨fun x => if hx : x < n then (hrow x hx).choose else (0, 0), fun x hx => by simp only [dif_pos hx]; exact (hrow x hx).choose_spec⟩
  obtain ⟨f, hf⟩ := hex
  refine ⟨b, o, fun x => (f x).1, fun x => (f x).2, rfl, hb, fun x hx => ?_, fun x hx => (hf x hx).2.1, fun x y hx hy => (hf x hx).2.2 y hy⟩
  obtain ⟨b2, o2, e2, _, hc2⟩ := hr.at_ x (by omega)
  injection e2 with e2
  injection e2 with e3 e4
  subst e3 e4
  rw [hc2, (hf x hx).1, hl x hx]

def diB (n : Nat) (E : Nat → Nat → Int) : Bool := decide (∀ x, x < n → E x x = (x : Int))
def coAt (n : Nat) (E : Nat → Nat → Int) (x k : Nat) : Prop := ∀ y, y < k → E x y = E y x
def seAt (n : Nat) (E : Nat → Nat → Int) (x k : Nat) : Prop := ∀ y, y < k → E x (E y x).toNat = (y : Int)
instance (n : Nat) (E : Nat → Nat → Int) (x k : Nat) : Decidable (coAt n E x k) := by unfold coAt; infer_instance
instance (n : Nat) (E : Nat → Nat → Int) (x k : Nat) : Decidable (seAt n E x k) := by unfold seAt; infer_instance
def coB (n : Nat) (E : Nat → Nat → Int) : Bool := decide (∀ x, x < n → coAt n E x n)
def seB (n : Nat) (E : Nat → Nat → Int) : Bool := decide (∀ x, x < n → seAt n E x n)

set_option maxHeartbeats 4000000 in
theorem l08Diagonal_c (w : World) (n b o c : Nat) (fb fo fc : Nat → Nat) (E : Nat → Nat → Int) (hG : Grid w n b o fb fo fc E) (hn : n ≤ 10) :
    Calls Try.prog 82 #[.slice (some ⟨b, o, none⟩) n c, .int .i64 1] w (EndQ (.bool (diB n E)) w) := by
  have h11 : ((1 : Int) == 1) = true := rfl
  have h12 : ((1 : Int) == 2) = false := rfl
  obtain ⟨T, hT⟩ : ∃ T, T = diB n E := ⟨_, rfl⟩
  rw [← hT]
  have HT := Lib.hid hT
  have HG := Lib.hid hG
  clear hG hT
  go_enter Try.func82, Try.ntmps82
  go_wp2
  go_loopw [5] (fun v wr => ∃ k : Nat, k ≤ n ∧ v = .int .i64 k ∧ Hid (∀ x, x < k → E x x = (x : Int)) ∧ Qt w wr) (fun v _ => n - (intOf v).toNat)
  case atStart => exact ⟨0, Nat.zero_le _, rfl, Lib.hid (fun j hj => absurd hj (by omega)), Qt.refl _⟩
  case round =>
    obtain ⟨k, hk, rfl, HE, ⟨m0, hm0⟩⟩ := hrel
    have HQ := Lib.hid hm0
    have HGw := Lib.hid (show Grid wr n b o fb fo fc E by rw [hm0]; exact HG.out.drewN m0)
    clear hm0
    by_cases hlt : k < n
    · have hc := HGw.out.row k hlt
      have hc2 := HGw.out.ent k k hlt hlt
      have hk1 : (0 : Int) ≤ (k : Int) := by omega
      have hk2 : (k : Int) < (n : Int) := by omega
      obtain ⟨z, hz⟩ : ∃ z, z = E k k := ⟨_, rfl⟩
      rw [← hz] at hc2
      by_cases hzk : z = (k : Int)
      · have hd : (z != (k : Int)) = false := by simp; omega
        have HE' := Lib.hid (show ∀ x, x < k + 1 → E x x = (x : Int) from fun x hx => by
          by_cases e : x = k
          · subst e; rw [← hz]; exact hzk
          · exact HE.out x (by omega))
        clear hz hzk
        go_wp2
        go_quiet (fail)
        clear hc hc2
        go_wp2
        go_roundw
        case rel => exact ⟨k + 1, by omega, by go_num, HE', m0 + nq, by rw [HQ.out, World.drewN_drewN]⟩
        case measure => simp [intOf]; omega
      · have hd : (z != (k : Int)) = true := by simp; omega
        have HF := Lib.hid (show T = false by rw [HT.out]; exact decide_eq_false (fun h => hzk (by rw [hz]; exact h k hlt)))
        clear hz hzk
        go_wp2
        go_quiet (fail)
        clear hc hc2
        go_wp2
        go_ret
        exact ⟨ret_b HF.out.symm, m0 + nq, by rw [HQ.out, World.drewN_drewN]⟩
    · obtain rfl : k = n := by omega
      have HF := Lib.hid (show T = true by rw [HT.out]; exact decide_eq_true HE.out)
      go_wp2
      go_ret
      exact ⟨ret_b HF.out.symm, m0, HQ.out⟩

set_option maxHeartbeats 4000000 in
theorem l08PairsCo_c (w : World) (n b o c : Nat) (fb fo fc : Nat → Nat) (E : Nat → Nat → Int) (hG : Grid w n b o fb fo fc E) (hn : n ≤ 10) (hE : ∀ x y, x < n → y < n → 0 ≤ E x y ∧ E x y < (n : Int)) :
    Calls Try.prog 85 #[.slice (some ⟨b, o, none⟩) n c, .int .i64 3] w (EndQ (.bool (coB n E)) w) := by
  have h33 : ((3 : Int) == 3) = true := rfl
  have h37 : ((3 : Int) == 7) = false := rfl
  obtain ⟨T, hT⟩ : ∃ T, T = coB n E := ⟨_, rfl⟩
  rw [← hT]
  have HT := Lib.hid hT
  have HG := Lib.hid hG
  have HEb := Lib.hid hE
  clear hG hT hE
  go_enter Try.func85, Try.ntmps85
  go_wp2
  go_loopw [6, 7] (fun v _ wr => ∃ x : Nat, x ≤ n ∧ v = .int .i64 x ∧ Hid (∀ x', x' < x → coAt n E x' n) ∧ Qt w wr) (fun v _ _ => n - (intOf v).toNat)
  case atStart => exact ⟨0, Nat.zero_le _, rfl, Lib.hid (fun j hj => absurd hj (by omega)), Qt.refl _⟩
  case round =>
    obtain ⟨x, hx, rfl, HX, HQ0⟩ := hrel
    have HQ0 := Lib.hid HQ0
    obtain ⟨wo, rfl⟩ : ∃ wo, wo = wr := ⟨_, rfl⟩
    by_cases hxn : x < n
    · go_wp2
      go_loopw [7] (fun v wr => ∃ y : Nat, y ≤ n ∧ v = .int .i64 y ∧ Hid (coAt n E x y) ∧ Qt w wr) (fun v _ => n - (intOf v).toNat)
      case atStart => exact ⟨0, Nat.zero_le _, rfl, Lib.hid (fun j hj => absurd hj (by omega)), HQ0.out⟩
      case round =>
        obtain ⟨y, hy, rfl, HY, ⟨m0, hm0⟩⟩ := hrel
        have HQ := Lib.hid hm0
        have HGw := Lib.hid (show Grid wr n b o fb fo fc E by rw [hm0]; exact HG.out.drewN m0)
        clear hm0
        by_cases hyn : y < n
        · have hc := HGw.out.row x hxn
          have hc2 := HGw.out.row y hyn
          have hc3 := HGw.out.ent y x hyn hxn
          have hx0 : (0 : Int) ≤ (x : Int) := by omega
          have hx2 : (x : Int) < (n : Int) := by omega
          have hy0 : (0 : Int) ≤ (y : Int) := by omega
          have hy2 : (y : Int) < (n : Int) := by omega
          have hub := HEb.out y x hyn hxn
          obtain ⟨u, hu⟩ : ∃ u : Nat, E y x = (u : Int) := ⟨(E y x).toNat, by omega⟩
          have hun : u < n := by omega
          rw [hu] at hc3
          have hu0 : (0 : Int) ≤ (u : Int) := by omega
          have hu2 : (u : Int) < (n : Int) := by omega
          obtain ⟨z, hz, hc4⟩ : ∃ z, z = E x y ∧ wr.cell? ⟨fb x, fo x + y, none⟩ = some (.int .i64 z) := ⟨_, rfl, HGw.out.ent x y hxn hyn⟩
          clear hub
          by_cases hzk : z = (u : Int)
          · have hd : (z != (u : Int)) = false := by simp; omega
            have HY' := Lib.hid (show coAt n E x (y + 1) from fun j hj => by
              by_cases e : j = y
              · subst e; rw [hu]; exact hz.symm.trans hzk
              · exact HY.out j (by omega))
            clear hz hzk hu
            go_wp2
            go_quiet (fail)
            clear hc hc2 hc3 hc4
            go_wp2
            go_roundw
            case rel => exact ⟨y + 1, by omega, by go_num, HY', m0 + nq, by rw [HQ.out, World.drewN_drewN]⟩
            case measure => simp [intOf]; omega
          · have hd : (z != (u : Int)) = true := by simp; omega
            have HF := Lib.hid (show T = false by
              rw [HT.out]
              refine decide_eq_false (fun h => hzk (hz.trans ?_))
              have h2 := h x hxn y hyn
              rw [hu] at h2
              exact h2)
            clear hz hzk hu
            go_wp2
            go_quiet (fail)
            clear hc hc2 hc3 hc4
            go_wp2
            go_ret
            exact ⟨ret_b HF.out.symm, m0 + nq, by rw [HQ.out, World.drewN_drewN]⟩
        · obtain rfl : y = n := by omega
          have HX' := Lib.hid (show ∀ x', x' < x + 1 → coAt y E x' y from fun j hj => by
            by_cases e : j = x
            · subst e; exact HY.out
            · exact HX.out j (by omega))
          go_wp2
          go_roundw
          case rel => exact ⟨x + 1, by omega, by go_num, HX', m0, HQ.out⟩
          case measure => simp [intOf]; omega
    · obtain rfl : x = n := by omega
      have HF := Lib.hid (show T = true by rw [HT.out]; exact decide_eq_true HX.out)
      go_wp2
      go_ret
      exact ⟨ret_b HF.out.symm, HQ0.out⟩

set_option maxHeartbeats 4000000 in
theorem l08PairsSe_c (w : World) (n b o c : Nat) (fb fo fc : Nat → Nat) (E : Nat → Nat → Int) (hG : Grid w n b o fb fo fc E) (hn : n ≤ 10) (hE : ∀ x y, x < n → y < n → 0 ≤ E x y ∧ E x y < (n : Int)) :
    Calls Try.prog 85 #[.slice (some ⟨b, o, none⟩) n c, .int .i64 7] w (EndQ (.bool (seB n E)) w) := by
  have h33 : ((7 : Int) == 3) = false := rfl
  have h37 : ((7 : Int) == 7) = true := rfl
  obtain ⟨T, hT⟩ : ∃ T, T = seB n E := ⟨_, rfl⟩
  rw [← hT]
  have HT := Lib.hid hT
  have HG := Lib.hid hG
  have HEb := Lib.hid hE
  clear hG hT hE
  go_enter Try.func85, Try.ntmps85
  go_wp2
  go_loopw [6, 7] (fun v _ wr => ∃ x : Nat, x ≤ n ∧ v = .int .i64 x ∧ Hid (∀ x', x' < x → seAt n E x' n) ∧ Qt w wr) (fun v _ _ => n - (intOf v).toNat)
  case atStart => exact ⟨0, Nat.zero_le _, rfl, Lib.hid (fun j hj => absurd hj (by omega)), Qt.refl _⟩
  case round =>
    obtain ⟨x, hx, rfl, HX, HQ0⟩ := hrel
    have HQ0 := Lib.hid HQ0
    obtain ⟨wo, rfl⟩ : ∃ wo, wo = wr := ⟨_, rfl⟩
    by_cases hxn : x < n
    · go_wp2
      go_loopw [7] (fun v wr => ∃ y : Nat, y ≤ n ∧ v = .int .i64 y ∧ Hid (seAt n E x y) ∧ Qt w wr) (fun v _ => n - (intOf v).toNat)
      case atStart => exact ⟨0, Nat.zero_le _, rfl, Lib.hid (fun j hj => absurd hj (by omega)), HQ0.out⟩
      case round =>
        obtain ⟨y, hy, rfl, HY, ⟨m0, hm0⟩⟩ := hrel
        have HQ := Lib.hid hm0
        have HGw := Lib.hid (show Grid wr n b o fb fo fc E by rw [hm0]; exact HG.out.drewN m0)
        clear hm0
        by_cases hyn : y < n
        · have hc := HGw.out.row x hxn
          have hc2 := HGw.out.row y hyn
          have hc3 := HGw.out.ent y x hyn hxn
          have hx0 : (0 : Int) ≤ (x : Int) := by omega
          have hx2 : (x : Int) < (n : Int) := by omega
          have hy0 : (0 : Int) ≤ (y : Int) := by omega
          have hy2 : (y : Int) < (n : Int) := by omega
          have hub := HEb.out y x hyn hxn
          obtain ⟨u, hu⟩ : ∃ u : Nat, E y x = (u : Int) := ⟨(E y x).toNat, by omega⟩
          have hun : u < n := by omega
          rw [hu] at hc3
          have hu0 : (0 : Int) ≤ (u : Int) := by omega
          have hu2 : (u : Int) < (n : Int) := by omega
          obtain ⟨z, hz, hc4⟩ : ∃ z, z = E x u ∧ wr.cell? ⟨fb x, fo x + u, none⟩ = some (.int .i64 z) := ⟨_, rfl, HGw.out.ent x u hxn hun⟩
          clear hub
          by_cases hzk : z = (y : Int)
          · have hd : (z != (y : Int)) = false := by simp; omega
            have HY' := Lib.hid (show seAt n E x (y + 1) from fun j hj => by
              by_cases e : j = y
              · subst e; rw [hu]; exact hz.symm.trans hzk
              · exact HY.out j (by omega))
            clear hz hzk hu
            go_wp2
            go_quiet (fail)
            clear hc hc2 hc3 hc4
            go_wp2
            go_roundw
            case rel => exact ⟨y + 1, by omega, by go_num, HY', m0 + nq, by rw [HQ.out, World.drewN_drewN]⟩
            case measure => simp [intOf]; omega
          · have hd : (z != (y : Int)) = true := by simp; omega
            have HF := Lib.hid (show T = false by
              rw [HT.out]
              refine decide_eq_false (fun h => hzk (hz.trans ?_))
              have h2 := h x hxn y hyn
              rw [hu] at h2
              exact h2)
            clear hz hzk hu
            go_wp2
            go_quiet (fail)
            clear hc hc2 hc3 hc4
            go_wp2
            go_ret
            exact ⟨ret_b HF.out.symm, m0 + nq, by rw [HQ.out, World.drewN_drewN]⟩
        · obtain rfl : y = n := by omega
          have HX' := Lib.hid (show ∀ x', x' < x + 1 → seAt y E x' y from fun j hj => by
            by_cases e : j = x
            · subst e; exact HY.out
            · exact HX.out j (by omega))
          go_wp2
          go_roundw
          case rel => exact ⟨x + 1, by omega, by go_num, HX', m0, HQ.out⟩
          case measure => simp [intOf]; omega
    · obtain rfl : x = n := by omega
      have HF := Lib.hid (show T = true by rw [HT.out]; exact decide_eq_true HX.out)
      go_wp2
      go_ret
      exact ⟨ret_b HF.out.symm, HQ0.out⟩
end Go.Proofs.Ytdcegepkgcflpaa
