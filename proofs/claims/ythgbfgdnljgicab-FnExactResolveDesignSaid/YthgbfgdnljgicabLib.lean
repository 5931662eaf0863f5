/-
  The laws' helpers over slices of int64: what eqInt64S, markInt64S, heldInt64S, szInt64S, toInt64S and their kin over slices of slices return and write. Conditions: those of each theorem.
-/
import Derived.Test.YthgbfgdnljgicabApp
namespace Go.Proofs.Ythgbfgdnljgicab
open Go.RowKit
set_option linter.unusedVariables false
set_option linter.unusedSimpArgs false

/-- The call returned v; beyond draws it did nothing. -/
def EndQ (v : Value) (w : World) (e : Ending) (w' : World) : Prop := e = .returned v ∧ ∃ m, w' = w.drewN m
/-- The world is as it was but for draws. -/
def Qt (w w' : World) : Prop := ∃ m, w' = w.drewN m
theorem Qt.refl (w : World) : Qt w w := ⟨0, rfl⟩
theorem Qt.trans {a b c : World} (h : Qt a b) (k : Qt b c) : Qt a c := by
  obtain ⟨m, rfl⟩ := h
  obtain ⟨n, rfl⟩ := k
  exact ⟨m + n, by rw [World.drewN_drewN]⟩

theorem qt2 (w : World) (m n : Nat) : Qt w ((w.drewN m).drewN n) := ⟨m + n, by rw [World.drewN_drewN]⟩

/-- Cells k < n of the slice at A hold 'f k'. -/
def At (w : World) (A : Option Addr) (n : Nat) (f : Nat → Int) : Prop :=
  ∀ k, k < n → ∃ b off, A = some ⟨b, off, none⟩ ∧ b < w.heap.size ∧ w.cell? ⟨b, off + k, none⟩ = some (.int .i64 (f k))

set_option maxHeartbeats 400000 in
theorem eqS_core (w : World) (A A' : Option Addr) (n c c' : Nat) (f g : Nat → Int) (hn : n ≤ 140737488355328) (hA : At w A n f) (hA' : At w A' n g) :
    Calls Try.prog 22 #[.slice A n c, .slice A' n c'] w (EndQ (.bool (decide (∀ k, k < n → f k = g k))) w) := by
  have HA := Lib.hid hA
  have HA' := Lib.hid hA'
  clear hA hA'
  go_enter Try.func22, Try.ntmps22
  go_wp2
  go_loopw [5] (fun i wr => ∃ k : Nat, k ≤ n ∧ i = .int .i64 k ∧ Qt w wr ∧ Hid (∀ j, j < k → f j = g j)) (fun i _ => n - (intOf i).toNat)
  case atStart => exact ⟨0, Nat.zero_le _, rfl, Qt.refl w, fun j hj => absurd hj (by omega)⟩
  case round =>
    obtain ⟨k, hk, rfl, ⟨m, rfl⟩, heq⟩ := hrel
    by_cases hlt : k < n
    · obtain ⟨b, off, rfl, hb, hc⟩ := HA.out k hlt
      obtain ⟨b', off', rfl, hb', hc'⟩ := HA'.out k hlt
      by_cases hfg : f k = g k
      · have hne : (f k != g k) = false := by simp [hfg]
        have Hfg := Lib.hid hfg
        clear hfg
        go_wp2
        go_quiet (fail)
        go_wp2
        go_roundw
        case rel =>
          refine ⟨k + 1, by omega, by go_num, ⟨_, rfl⟩, fun j hj => ?_⟩
          rcases Nat.lt_or_ge j k with h | h
          · exact heq j h
          · obtain rfl : j = k := by omega
            exact Hfg.out
        case measure => simp [intOf]; omega
      · have hne : (f k != g k) = true := by simp [hfg]
        have Hfg := Lib.hid hfg
        clear hfg
        go_wp2
        go_quiet (fail)
        go_wp2
        go_ret
        refine ⟨?_, qt2 _ _ _⟩
        rw [decide_eq_false fun h => Hfg.out (h k hlt)]; rfl
    · obtain rfl : k = n := by omega
      have hd : decide (∀ j, j < k → f j = g j) = true := decide_eq_true heq
      go_wp2
      go_ret
      exact ⟨by rw [hd]; rfl, ⟨m, rfl⟩⟩

theorem Qt.size {w w' : World} (h : Qt w w') : w'.heap.size = w.heap.size := by obtain ⟨m, rfl⟩ := h; rfl
theorem Qt.below {w w' : World} (h : Qt w w') (B : Nat) : Below B w w' := by obtain ⟨m, rfl⟩ := h; exact below_drewN (Below.refl _ _) m
theorem ret_b {b b' : Bool} (h : b = b') : Ending.returned (.bool b) = .returned (.bool b') := by rw [h]
theorem ret_i {k : IntKind} {a b : Int} (h : a = b) : Ending.returned (.int k a) = .returned (.int k b) := by rw [h]

theorem RdI.at' {w : World} {A : Option Addr} {c : Nat} {xs : List Int} (h : RdI w A c xs) : At w A xs.length (nth xs) := h.at_
theorem same_nth {xs ys : List Int} (hl : xs.length = ys.length) : (∀ k, k < xs.length → nth xs k = nth ys k) ↔ xs = ys := by
  constructor
  · intro h
    apply List.ext_getElem hl
    intro k h1 h2
    have := h k h1
    rwa [nth_eq h1, nth_eq h2] at this
  · rintro rfl _ _; rfl
theorem same_row {xs ys : List (List Int)} (hl : xs.length = ys.length) : (∀ k, k < xs.length → row xs k = row ys k) ↔ xs = ys := by
  constructor
  · intro h
    apply List.ext_getElem hl
    intro k h1 h2
    have := h k h1
    rwa [row_eq h1, row_eq h2] at this
  · rintro rfl _ _; rfl

set_option maxHeartbeats 400000 in
theorem eqS_len (w : World) (A A' : Option Addr) (n n' c c' : Nat) (hn : ((n : Int) != n') = true) :
    Calls Try.prog 22 #[.slice A n c, .slice A' n' c'] w (EndQ (.bool false) w) := by
  have hn' : (n != n') = true := by simp at hn ⊢; omega
  go_enter Try.func22, Try.ntmps22
  go_wp2
  go_ret
  exact ⟨rfl, 0, rfl⟩

/-- eqInt64S: whether both lists are one. -/
theorem eqS (w : World) {A A' : Option Addr} {n n' c c' : Nat} {xs ys : List Int} (hx : RdI w A c xs) (hy : RdI w A' c' ys) (hn : xs.length = n) (hn' : ys.length = n') (hb : xs.length ≤ 140737488355328) :
    Calls Try.prog 22 #[.slice A n c, .slice A' n' c'] w (EndQ (.bool (decide (xs = ys))) w) := by
  subst hn hn'
  by_cases hl : xs.length = ys.length
  · have h := eqS_core w A A' xs.length c c' (nth xs) (nth ys) hb hx.at' (hl ▸ hy.at')
    rw [hl] at h ⊢
    rw [show decide (∀ k, k < ys.length → nth xs k = nth ys k) = decide (xs = ys) from by rw [← hl]; exact decide_eq_decide.2 (same_nth hl)] at h
    exact h
  · rw [decide_eq_false (fun e => hl (by rw [e]))]
    exact eqS_len w A A' _ _ c c' (by simp; omega)

/-- Rows k < n of the slice at A. -/
def AtM (w : World) (A : Option Addr) (n : Nat) (V : Nat → Option Addr × Nat × Nat) : Prop :=
  ∀ k, k < n → ∃ b off, A = some ⟨b, off, none⟩ ∧ b < w.heap.size ∧ w.cell? ⟨b, off + k, none⟩ = some (.slice (V k).1 (V k).2.1 (V k).2.2)

set_option maxHeartbeats 400000 in
theorem eqSS_len (w : World) (A A' : Option Addr) (n n' c c' : Nat) (hn : ((n : Int) != n') = true) :
    Calls Try.prog 8 #[.slice A n c, .slice A' n' c'] w (EndQ (.bool false) w) := by
  have hn' : (n != n') = true := by simp at hn ⊢; omega
  go_enter Try.func8, Try.ntmps8
  go_wp2
  go_ret
  exact ⟨rfl, 0, rfl⟩

theorem quiet_end {f : FuncId} {args : Array Value} {w : World} {v : Value} (h : Calls Try.prog f args w (EndQ v w)) :
    Calls Try.prog f args w fun e w' => e = .returned v ∧ ∃ m, w' = w.drewN m := h
theorem quiet_endN {f : FuncId} {args : Array Value} {w : World} {a n : Nat} {v : Value} (h : Calls Try.prog f args (w.drewN (a + n)) (EndQ v (w.drewN (a + n)))) :
    Calls Try.prog f args (w.drewN (a + n)) fun e w' => e = .returned v ∧ ∃ m, w' = w.drewN (a + m) :=
  h.mono fun _ _ ⟨he, m, hm⟩ => ⟨he, n + m, by rw [hm, World.drewN_drewN, Nat.add_assoc]⟩

theorem quiet_end0 {f : FuncId} {args : Array Value} {w : World} {n : Nat} {v : Value} (h : Calls Try.prog f args (w.drewN n) (EndQ v (w.drewN n))) :
    Calls Try.prog f args (w.drewN n) fun e w' => e = .returned v ∧ ∃ m, w' = w.drewN m :=
  h.mono fun _ _ ⟨he, m, hm⟩ => ⟨he, n + m, by rw [hm, World.drewN_drewN]⟩

set_option maxHeartbeats 400000 in
theorem eqSS_core (w : World) (A A' : Option Addr) (n c c' : Nat) (R R' : Spine) (xss yss : List (List Int)) (hn : n ≤ 140737488355328) (hx : RdM w A c R xss) (hy : RdM w A' c' R' yss) (hxl : Hid (xss.length = n)) (hyl : Hid (yss.length = n))
    (hb : ∀ k, k < n → (row xss k).length ≤ 140737488355328) :
    Calls Try.prog 8 #[.slice A n c, .slice A' n c'] w (EndQ (.bool (decide (∀ k, k < n → row xss k = row yss k))) w) := by
  have HX := Lib.hid hx
  have HY := Lib.hid hy
  have HB := Lib.hid hb
  clear hx hy hb
  go_enter Try.func8, Try.ntmps8
  go_wp2
  go_loopw [5] (fun i wr => ∃ k : Nat, k ≤ n ∧ i = .int .i64 k ∧ Qt w wr ∧ Hid (∀ j, j < k → row xss j = row yss j)) (fun i _ => n - (intOf i).toNat)
  case atStart => exact ⟨0, Nat.zero_le _, rfl, Qt.refl w, fun j hj => absurd hj (by omega)⟩
  case round =>
    obtain ⟨k, hk, rfl, ⟨m, rfl⟩, heq⟩ := hrel
    by_cases hlt : k < n
    · obtain ⟨b, off, rfl, hb, hc⟩ := HX.out.at_ k (by rw [hxl.out]; exact hlt)
      obtain ⟨b', off', rfl, hb', hc'⟩ := HY.out.at_ k (by rw [hyl.out]; exact hlt)
      have hcall := fun q => eqS (w.drewN q) ((HX.out.rows k (by rw [hxl.out]; exact hlt)).drewN q) ((HY.out.rows k (by rw [hyl.out]; exact hlt)).drewN q) rfl rfl (HB.out k hlt)
      by_cases hfg : row xss k = row yss k
      · have hd : decide (row xss k = row yss k) = true := decide_eq_true hfg
        have Hfg := Lib.hid hfg
        rw [hd] at hcall
        clear hfg hd
        have HC := Lib.hid hcall
        clear hcall
        go_wp2
        go_quiet ((go_at_call 22; exact quiet_endN (HC.out _)))
        go_wp2
        go_roundw
        case rel =>
          refine ⟨k + 1, by omega, by go_num, ⟨_, rfl⟩, fun j hj => ?_⟩
          rcases Nat.lt_or_ge j k with h | h
          · exact heq j h
          · obtain rfl : j = k := by omega
            exact Hfg.out
        case measure => simp [intOf]; omega
      · have hd : decide (row xss k = row yss k) = false := decide_eq_false hfg
        have Hfg := Lib.hid hfg
        rw [hd] at hcall
        clear hfg hd
        have HC := Lib.hid hcall
        clear hcall
        go_wp2
        go_quiet ((go_at_call 22; exact quiet_endN (HC.out _)))
        go_wp2
        go_ret
        refine ⟨?_, qt2 _ _ _⟩
        rw [decide_eq_false fun h => Hfg.out (h k hlt)]; rfl
    · obtain rfl : k = n := by omega
      have hd : decide (∀ j, j < k → row xss j = row yss j) = true := decide_eq_true heq
      go_wp2
      go_ret
      exact ⟨by rw [hd]; rfl, ⟨m, rfl⟩⟩

/-- eqInt64SS: whether both lists of lists are one. -/
theorem eqSS (w : World) {A A' : Option Addr} {n n' c c' : Nat} {R R' : Spine} {xss yss : List (List Int)} (hx : RdM w A c R xss) (hy : RdM w A' c' R' yss) (hn : xss.length = n) (hn' : yss.length = n') (hb : xss.length ≤ 140737488355328)
    (hb' : ∀ k, k < xss.length → (row xss k).length ≤ 140737488355328) :
    Calls Try.prog 8 #[.slice A n c, .slice A' n' c'] w (EndQ (.bool (decide (xss = yss))) w) := by
  subst hn hn'
  by_cases hl : xss.length = yss.length
  · have h := eqSS_core w A A' xss.length c c' R R' xss yss hb hx hy rfl hl.symm hb'
    rw [show decide (∀ k, k < xss.length → row xss k = row yss k) = decide (xss = yss) from decide_eq_decide.2 (same_row hl)] at h
    rw [← hl]
    exact h
  · rw [decide_eq_false (fun e => hl (by rw [e]))]
    exact eqSS_len w A A' _ _ c c' (by simp; omega)
end Go.Proofs.Ythgbfgdnljgicab
