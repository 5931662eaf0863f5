/-
  Identities of squares: l08Holds of the reference, satisfies of the program, at the kinds 1 and 8. Conditions: those of each theorem.
-/
import Derived.Test.YtdcegepkgcflpaaQg
namespace Go.Proofs.Ytdcegepkgcflpaa
open Go.RowKit
set_option linter.unusedVariables false
set_option linter.unusedSimpArgs false

set_option maxHeartbeats 4000000 in
theorem l08Holds1_c (w : World) (n b o c : Nat) (fb fo fc : Nat → Nat) (E : Nat → Nat → Int) (hG : Grid w n b o fb fo fc E) (hn : n ≤ 10) :
    Calls Try.prog 49 #[.slice (some ⟨b, o, none⟩) n c, .int .i64 1] w (EndQ (.bool (diB n E)) w) := by
  have HD := Lib.hid (l08Diagonal_c w n b o c fb fo fc E hG hn)
  clear hG
  go_enter Try.func49, Try.ntmps49
  go_wp2_with fail
  refine (HD.out).mono ?_
  rintro e w1 ⟨rfl, q, rfl⟩
  go_wp2
  go_ret
  exact ⟨rfl, q, rfl⟩

set_option maxHeartbeats 4000000 in
theorem l08Holds8_c (w : World) (n b o c : Nat) (fb fo fc : Nat → Nat) (E : Nat → Nat → Int) (hG : Grid w n b o fb fo fc E) (hn : n ≤ 10) (hE : ∀ x y, x < n → y < n → 0 ≤ E x y ∧ E x y < (n : Int)) :
    Calls Try.prog 49 #[.slice (some ⟨b, o, none⟩) n c, .int .i64 8] w (EndQ (.bool (coB n E && seB n E)) w) := by
  have HD := Lib.hid (l08PairsCo_c w n b o c fb fo fc E hG hn hE)
  have HS := Lib.hid (fun z => l08PairsSe_c (w.drewN z) n b o c fb fo fc E (hG.drewN z) hn hE)
  clear hG hE
  rcases hc : coB n E with _ | _
  · rw [hc] at HD
    clear hc
    go_enter Try.func49, Try.ntmps49
    go_wp2_with fail
    refine (HD.out).mono ?_
    rintro e w1 ⟨rfl, q, rfl⟩
    go_wp2
    go_ret
    exact ⟨rfl, q, rfl⟩
  · rw [hc] at HD
    clear hc
    go_enter Try.func49, Try.ntmps49
    go_wp2_with fail
    refine (HD.out).mono ?_
    rintro e w1 ⟨rfl, q, rfl⟩
    go_wp2_with fail
    refine (HS.out q).mono ?_
    rintro e w1 ⟨rfl, q2, rfl⟩
    go_wp2
    go_ret
    exact ⟨rfl, q + q2, rfl⟩

def allTo (p : Nat → Bool) (n : Nat) : Bool := decide (∀ k, k < n → p k = true)

set_option maxHeartbeats 4000000 in
theorem forAll_c (w : World) (A : Option Addr) (n c : Nat) (hn : n ≤ 1048576) (g : Nat) (lb : Array Value) (p : Nat → Bool) (eg : ∀ args w, (callFunc g args).run Try.prog w = .ok (.enter g args) w)
    (hp : ∀ W k, k < n → Below w.heap.size w W → Calls Try.prog g (#[.int .i64 (k : Int)] ++ lb) W (PostV W (.bool (p k)))) :
    Calls Try.prog 90 #[.slice A n c, .func (.func g) #[] lb] w (PostV w (.bool (allTo p n))) := by
  have HP := Lib.hid hp
  obtain ⟨T, hT⟩ : ∃ T, T = allTo p n := ⟨_, rfl⟩
  rw [← hT]
  have HT := Lib.hid hT
  clear hp hT
  go_enter Try.func90, Try.ntmps90
  go_wp2
  go_loopw [8] (fun i wr => ∃ k : Nat, k ≤ n ∧ i = .int .i64 k ∧ Hid (∀ j, j < k → p j = true) ∧ Hid (Below w.heap.size w wr)) (fun i _ => n - (intOf i).toNat)
  case atStart => exact ⟨0, Nat.zero_le _, rfl, Lib.hid (fun j hj => absurd hj (by omega)), Lib.hid (Below.refl _ _)⟩
  case round =>
    obtain ⟨k, hk, rfl, HF, HB⟩ := hrel
    by_cases hlt : k < n
    · have hcall := HP.out wr k hlt HB.out
      rcases hq : p k with _ | _
      · rw [hq] at hcall
        have HC := Lib.hid hcall
        have HE := Lib.hid (show T = false by rw [HT.out]; exact decide_eq_false (fun h => by have := h k hlt; rw [hq] at this; cases this))
        clear hcall hq
        go_wp2_with fail
        refine (HC.out).mono ?_
        rintro e w1 ⟨rfl, hb1⟩
        have hB1 : Below w.heap.size w w1 := HB.out.trans (hb1.mono HB.out.size)
        go_wp2
        go_ret
        exact ⟨ret_b HE.out.symm, hB1⟩
      · rw [hq] at hcall
        have HC := Lib.hid hcall
        have HF' := Lib.hid (show ∀ j, j < k + 1 → p j = true from fun j hj => by
          by_cases e : j = k
          · subst e; exact hq
          · exact HF.out j (by omega))
        clear hcall hq
        go_wp2_with fail
        refine (HC.out).mono ?_
        rintro e w1 ⟨rfl, hb1⟩
        have HB1 := Lib.hid (show Below w.heap.size w w1 from HB.out.trans (hb1.mono HB.out.size))
        clear hb1
        go_wp2
        go_roundw
        case rel => exact ⟨k + 1, by omega, by go_num, HF', HB1⟩
        case measure => simp [intOf]; omega
    · obtain rfl : k = n := by omega
      have HE := Lib.hid (show T = true by rw [HT.out]; exact decide_eq_true HF.out)
      go_wp2
      go_ret
      exact ⟨ret_b HE.out.symm, HB.out⟩

set_option maxHeartbeats 4000000 in
theorem pairInner_c (W : World) (B1 B2 : Nat) (g : Nat) (lb : Array Value) (x y : Nat) (q : Bool) (eg : ∀ args w, (callFunc g args).run Try.prog w = .ok (.enter g args) w)
    (h1 : W.cell? ⟨B1, 0, none⟩ = some (.func (.func g) #[] lb)) (h2 : W.cell? ⟨B2, 0, none⟩ = some (.int .i64 (x : Int)))
    (hp : Calls Try.prog g (#[.int .i64 (x : Int), .int .i64 (y : Int)] ++ lb) W (PostV W (.bool q))) :
    Calls Try.prog 126 #[.int .i64 (y : Int), .pointer (some ⟨B1, 0, none⟩), .pointer (some ⟨B2, 0, none⟩)] W (PostV W (.bool q)) := by
  have HP := Lib.hid hp
  clear hp
  go_enter Try.func126, Try.ntmps126
  go_wp2_with fail
  refine (HP.out).mono ?_
  rintro e w1 ⟨rfl, hb1⟩
  go_wp2
  go_ret
  exact ⟨rfl, hb1⟩

set_option maxHeartbeats 4000000 in
theorem pairOuter_c (W : World) (B1 B2 : Nat) (A : Option Addr) (n c : Nat) (hn : n ≤ 1048576) (g : Nat) (lb : Array Value) (p : Nat → Nat → Bool) (x : Nat) (hx : x < n) (eg : ∀ args w, (callFunc g args).run Try.prog w = .ok (.enter g args) w)
    (h1 : W.cell? ⟨B1, 0, none⟩ = some (.slice A n c)) (h2 : W.cell? ⟨B2, 0, none⟩ = some (.func (.func g) #[] lb))
    (hp : ∀ W' y, y < n → Below W.heap.size W W' → Calls Try.prog g (#[.int .i64 (x : Int), .int .i64 (y : Int)] ++ lb) W' (PostV W' (.bool (p x y)))) :
    Calls Try.prog 125 #[.int .i64 (x : Int), .pointer (some ⟨B1, 0, none⟩), .pointer (some ⟨B2, 0, none⟩)] W (PostV W (.bool (allTo (p x) n))) := by
  have l1 : B1 < W.heap.size := cell_size h1
  have l2 : B2 < W.heap.size := cell_size h2
  have hB0 : Below W.heap.size W (W.alloc (.cells #[.int .i64 (x : Int)] 2)) := (Below.refl _ _).alloc (Nat.le_refl _) _
  have hmf : ∀ (fn : Fn) (first cap : Array Value) (w : World), (Instr.makeFunc fn first cap).run Try.prog w = .ok (.func fn first cap) w := fun _ _ _ _ => rfl
  have k1 := (hB0.cell (p := ⟨B1, 0, none⟩) l1).trans h1
  have k2 := (hB0.cell (p := ⟨B2, 0, none⟩) l2).trans h2
  have HX := Lib.hid (show (W.alloc (.cells #[.int .i64 (x : Int)] 2)).cell? ⟨W.heap.size, 0, none⟩ = some (.int .i64 (x : Int)) from World.cell?_alloc_at _ _ _ _ rfl)
  have e2 := enters_of Try.func126 (by kernel_rfl) rfl
  have HC := Lib.hid (forAll_c (W.alloc (.cells #[.int .i64 (x : Int)] 2)) A n c hn 126 #[.pointer (some ⟨B2, 0, none⟩), .pointer (some ⟨W.heap.size, 0, none⟩)] (p x) e2 (fun W' y hy hb =>
    pairInner_c W' B2 W.heap.size g lb x y (p x y) eg ((hb.cell (p := ⟨B2, 0, none⟩) (by simp; omega)).trans k2) ((hb.cell (p := ⟨W.heap.size, 0, none⟩) (by simp)).trans HX.out) (hp W' y hy (hB0.trans (hb.mono (by simp))))))
  clear hp e2 eg h1 h2
  go_enter Try.func125, Try.ntmps125
  go_wp2_with fail
  refine (HC.out).mono ?_
  rintro e w2 ⟨rfl, hb2⟩
  have hB := hB0.trans (hb2.mono (by simp))
  go_wp2
  go_ret
  exact ⟨rfl, hB⟩

set_option maxHeartbeats 4000000 in
theorem forPairs_c (w : World) (A : Option Addr) (n c : Nat) (hn : n ≤ 1048576) (g : Nat) (lb : Array Value) (p : Nat → Nat → Bool) (eg : ∀ args w, (callFunc g args).run Try.prog w = .ok (.enter g args) w)
    (hp : ∀ W x y, x < n → y < n → Below w.heap.size w W → Calls Try.prog g (#[.int .i64 (x : Int), .int .i64 (y : Int)] ++ lb) W (PostV W (.bool (p x y)))) :
    Calls Try.prog 93 #[.slice A n c, .func (.func g) #[] lb] w (PostV w (.bool (allTo (fun x => allTo (p x) n) n))) := by
  obtain ⟨w1, hw1⟩ : ∃ w1, w1 = w.alloc (.cells #[.slice A n c] 22) := ⟨_, rfl⟩
  obtain ⟨w2, hw2⟩ : ∃ w2, w2 = w1.alloc (.cells #[.func (.func g) #[] lb] 86) := ⟨_, rfl⟩
  have hs1 : w1.heap.size = w.heap.size + 1 := by rw [hw1]; simp
  have hs2 : w2.heap.size = w.heap.size + 2 := by rw [hw2]; simp [hs1]
  have hB1 : Below w.heap.size w w1 := by rw [hw1]; exact (Below.refl _ _).alloc (Nat.le_refl _) _
  have hB12 : Below w1.heap.size w1 w2 := by rw [hw2]; exact (Below.refl _ _).alloc (Nat.le_refl _) _
  have hB2 : Below w.heap.size w w2 := hB1.trans (hB12.mono (by omega))
  have hmf : ∀ (fn : Fn) (first cap : Array Value) (w : World), (Instr.makeFunc fn first cap).run Try.prog w = .ok (.func fn first cap) w := fun _ _ _ _ => rfl
  have hx1 : w1.cell? ⟨w.heap.size, 0, none⟩ = some (.slice A n c) := by rw [hw1]; exact World.cell?_alloc_at _ _ _ _ rfl
  have k1 : w2.cell? ⟨w.heap.size, 0, none⟩ = some (.slice A n c) := (hB12.cell (p := ⟨w.heap.size, 0, none⟩) (show w.heap.size < w1.heap.size by omega)).trans hx1
  have k2 : w2.cell? ⟨w.heap.size + 1, 0, none⟩ = some (.func (.func g) #[] lb) := by rw [hw2, ← hs1]; exact World.cell?_alloc_at _ _ _ _ rfl
  have e2 := enters_of Try.func125 (by kernel_rfl) rfl
  have HC := Lib.hid (forAll_c w2 A n c hn 125 #[.pointer (some ⟨w.heap.size, 0, none⟩), .pointer (some ⟨w.heap.size + 1, 0, none⟩)] (fun x => allTo (p x) n) e2 (fun W' x hx hb =>
    pairOuter_c W' w.heap.size (w.heap.size + 1) A n c hn g lb p x hx eg ((hb.cell (p := ⟨w.heap.size, 0, none⟩) (show w.heap.size < w2.heap.size by omega)).trans k1) ((hb.cell (p := ⟨w.heap.size + 1, 0, none⟩) (show w.heap.size + 1 < w2.heap.size by omega)).trans k2)
      (fun W2 y hy hb2 => hp W2 x y hx hy (hB2.trans ((hb.trans (hb2.mono hb.size)).mono (by omega))))))
  have HW := Lib.hid (show (w.alloc (.cells #[.slice A n c] 22)).alloc (.cells #[.func (.func g) #[] lb] 86) = w2 by rw [hw2, hw1])
  have HS := Lib.hid (show (w.alloc (.cells #[.slice A n c] 22)).heap.size = w.heap.size + 1 by rw [← hw1]; exact hs1)
  have HB2 := Lib.hid hB2
  have hz2 : w.heap.size ≤ w2.heap.size := by omega
  clear hp e2 eg hw1 hw2 hB1 hB12 hx1 k2 hB2 hs1
  go_enter Try.func93, Try.ntmps93
  go_wp2_with fail
  rw [HW.out]
  refine (HC.out).mono ?_
  rintro e w3 ⟨rfl, hb3⟩
  have hB := HB2.out.trans (hb3.mono hz2)
  go_wp2
  go_ret
  exact ⟨rfl, hB⟩

set_option maxHeartbeats 4000000 in
theorem idem_c (W : World) (B n b o c : Nat) (fb fo fc : Nat → Nat) (E : Nat → Nat → Int) (hG : Grid W n b o fb fo fc E) (hn : n ≤ 10) (hx : W.cell? ⟨B, 0, none⟩ = some (.slice (some ⟨b, o, none⟩) n c)) (x : Nat) (hxn : x < n) :
    Calls Try.prog 91 #[.int .i64 (x : Int), .pointer (some ⟨B, 0, none⟩)] W (PostV W (.bool (decide (E x x = (x : Int))))) := by
  have hc := hG.row x hxn
  have hc2 := hG.ent x x hxn hxn
  have hk1 : (0 : Int) ≤ (x : Int) := by omega
  have hk2 : (x : Int) < (n : Int) := by omega
  generalize E x x = z at *
  have hd : (z == (x : Int)) = decide (z = (x : Int)) := by rw [Bool.eq_iff_iff]; simp
  clear hG
  go_enter Try.func91, Try.ntmps91
  go_wp2
  go_ret
  exact ⟨by first | rfl | rw [hd], Below.refl _ _⟩

set_option maxHeartbeats 4000000 in
theorem comm_c (W : World) (B n b o c : Nat) (fb fo fc : Nat → Nat) (E : Nat → Nat → Int) (hG : Grid W n b o fb fo fc E) (hn : n ≤ 10) (hx : W.cell? ⟨B, 0, none⟩ = some (.slice (some ⟨b, o, none⟩) n c)) (x y : Nat) (hxn : x < n) (hyn : y < n) :
    Calls Try.prog 94 #[.int .i64 (x : Int), .int .i64 (y : Int), .pointer (some ⟨B, 0, none⟩)] W (PostV W (.bool (decide (E x y = E y x)))) := by
  have hc := hG.row x hxn
  have hc2 := hG.ent x y hxn hyn
  have hc3 := hG.row y hyn
  have hc4 := hG.ent y x hyn hxn
  have hx1 : (0 : Int) ≤ (x : Int) := by omega
  have hx2 : (x : Int) < (n : Int) := by omega
  have hy1 : (0 : Int) ≤ (y : Int) := by omega
  have hy2 : (y : Int) < (n : Int) := by omega
  generalize E x y = z at *
  generalize E y x = u at *
  have hd : (z == u) = decide (z = u) := by rw [Bool.eq_iff_iff]; simp
  clear hG
  go_enter Try.func94, Try.ntmps94
  go_wp2
  go_quiet (fail)
  clear hc hc2 hc3 hc4
  go_wp2
  go_ret
  exact ⟨by first | rfl | rw [hd], below_drewN (Below.refl _ _) nq⟩

set_option maxHeartbeats 4000000 in
theorem semi_c (W : World) (B n b o c : Nat) (fb fo fc : Nat → Nat) (E : Nat → Nat → Int) (hG : Grid W n b o fb fo fc E) (hn : n ≤ 10) (hE : ∀ x y, x < n → y < n → 0 ≤ E x y ∧ E x y < (n : Int)) (hx : W.cell? ⟨B, 0, none⟩ = some (.slice (some ⟨b, o, none⟩) n c)) (x y : Nat) (hxn : x < n) (hyn : y < n) :
    Calls Try.prog 98 #[.int .i64 (x : Int), .int .i64 (y : Int), .pointer (some ⟨B, 0, none⟩)] W (PostV W (.bool (decide (E x (E y x).toNat = (y : Int))))) := by
  have hub := hE y x hyn hxn
  obtain ⟨u, hu⟩ : ∃ u : Nat, E y x = (u : Int) := ⟨(E y x).toNat, by omega⟩
  have hun : u < n := by omega
  have hc := hG.row x hxn
  have hc2 := hG.ent x u hxn hun
  have hc3 := hG.row y hyn
  have hc4 := hG.ent y x hyn hxn
  rw [hu] at hc4 ⊢
  have hx1 : (0 : Int) ≤ (x : Int) := by omega
  have hx2 : (x : Int) < (n : Int) := by omega
  have hy1 : (0 : Int) ≤ (y : Int) := by omega
  have hy2 : (y : Int) < (n : Int) := by omega
  have hu1 : (0 : Int) ≤ (u : Int) := by omega
  have hu2 : (u : Int) < (n : Int) := by omega
  rw [show ((u : Int)).toNat = u from rfl]
  generalize E x u = z at *
  have hd : (z == (y : Int)) = decide (z = (y : Int)) := by rw [Bool.eq_iff_iff]; simp
  clear hG hE hu hub
  go_enter Try.func98, Try.ntmps98
  go_wp2
  go_quiet (fail)
  clear hc hc2 hc3 hc4
  go_wp2
  go_ret
  exact ⟨by first | rfl | rw [hd], below_drewN (Below.refl _ _) nq⟩

theorem allTo_di (n : Nat) (E : Nat → Nat → Int) : allTo (fun x => decide (E x x = (x : Int))) n = diB n E := by
  unfold allTo diB
  simp only [decide_eq_true_eq]
theorem allTo_co (n : Nat) (E : Nat → Nat → Int) : allTo (fun x => allTo (fun y => decide (E x y = E y x)) n) n = coB n E := by
  unfold allTo coB coAt
  simp only [decide_eq_true_eq]
theorem allTo_se (n : Nat) (E : Nat → Nat → Int) : allTo (fun x => allTo (fun y => decide (E x (E y x).toNat = (y : Int))) n) n = seB n E := by
  unfold allTo seB seAt
  simp only [decide_eq_true_eq]

set_option maxHeartbeats 4000000 in
theorem satisfies1_c (w : World) (n b o c : Nat) (fb fo fc : Nat → Nat) (E : Nat → Nat → Int) (hG : Grid w n b o fb fo fc E) (hn : n ≤ 10) (hE : ∀ x y, x < n → y < n → 0 ≤ E x y ∧ E x y < (n : Int)) :
    Calls Try.prog 53 #[.slice (some ⟨b, o, none⟩) n c, .int .i64 1] w (PostV w (.bool (diB n E))) := by
  have hB0 : Below w.heap.size w (w.alloc (.cells #[.slice (some ⟨b, o, none⟩) n c] 22)) := (Below.refl _ _).alloc (Nat.le_refl _) _
  have hmf : ∀ (fn : Fn) (first cap : Array Value) (w : World), (Instr.makeFunc fn first cap).run Try.prog w = .ok (.func fn first cap) w := fun _ _ _ _ => rfl
  have HX := Lib.hid (show (w.alloc (.cells #[.slice (some ⟨b, o, none⟩) n c] 22)).cell? ⟨w.heap.size, 0, none⟩ = some (.slice (some ⟨b, o, none⟩) n c) from World.cell?_alloc_at _ _ _ _ rfl)
  have hG1 := hG.below hB0 (Nat.le_refl _)
  have eg := enters_of Try.func91 (by kernel_rfl) rfl
  have HC := Lib.hid ((allTo_di n E) ▸ forAll_c (w.alloc (.cells #[.slice (some ⟨b, o, none⟩) n c] 22)) (some ⟨b, o, none⟩) n c (by omega) 91 #[.pointer (some ⟨w.heap.size, 0, none⟩)] _ eg (fun W x hx hb => idem_c W w.heap.size n b o c fb fo fc E (hG1.below hb (Nat.le_refl _)) hn ((hb.cell (p := ⟨w.heap.size, 0, none⟩) (by simp)).trans HX.out) x hx))
  clear hG hE hG1 eg
  go_enter Try.func53, Try.ntmps53
  go_wp2_with fail
  refine (HC.out).mono ?_
  rintro e w2 ⟨rfl, hb2⟩
  have hB := hB0.trans (hb2.mono (by simp))
  go_wp2
  go_ret
  exact ⟨rfl, hB⟩

set_option maxHeartbeats 4000000 in
theorem satisfies3_c (w : World) (n b o c : Nat) (fb fo fc : Nat → Nat) (E : Nat → Nat → Int) (hG : Grid w n b o fb fo fc E) (hn : n ≤ 10) (hE : ∀ x y, x < n → y < n → 0 ≤ E x y ∧ E x y < (n : Int)) :
    Calls Try.prog 53 #[.slice (some ⟨b, o, none⟩) n c, .int .i64 3] w (PostV w (.bool (coB n E))) := by
  have hB0 : Below w.heap.size w (w.alloc (.cells #[.slice (some ⟨b, o, none⟩) n c] 22)) := (Below.refl _ _).alloc (Nat.le_refl _) _
  have hmf : ∀ (fn : Fn) (first cap : Array Value) (w : World), (Instr.makeFunc fn first cap).run Try.prog w = .ok (.func fn first cap) w := fun _ _ _ _ => rfl
  have HX := Lib.hid (show (w.alloc (.cells #[.slice (some ⟨b, o, none⟩) n c] 22)).cell? ⟨w.heap.size, 0, none⟩ = some (.slice (some ⟨b, o, none⟩) n c) from World.cell?_alloc_at _ _ _ _ rfl)
  have hG1 := hG.below hB0 (Nat.le_refl _)
  have eg := enters_of Try.func94 (by kernel_rfl) rfl
  have HC := Lib.hid ((allTo_co n E) ▸ forPairs_c (w.alloc (.cells #[.slice (some ⟨b, o, none⟩) n c] 22)) (some ⟨b, o, none⟩) n c (by omega) 94 #[.pointer (some ⟨w.heap.size, 0, none⟩)] _ eg (fun W x y hx hy hb => comm_c W w.heap.size n b o c fb fo fc E (hG1.below hb (Nat.le_refl _)) hn ((hb.cell (p := ⟨w.heap.size, 0, none⟩) (by simp)).trans HX.out) x y hx hy))
  clear hG hE hG1 eg
  go_enter Try.func53, Try.ntmps53
  go_wp2_with fail
  refine (HC.out).mono ?_
  rintro e w2 ⟨rfl, hb2⟩
  have hB := hB0.trans (hb2.mono (by simp))
  go_wp2
  go_ret
  exact ⟨rfl, hB⟩

set_option maxHeartbeats 4000000 in
theorem satisfies7_c (w : World) (n b o c : Nat) (fb fo fc : Nat → Nat) (E : Nat → Nat → Int) (hG : Grid w n b o fb fo fc E) (hn : n ≤ 10) (hE : ∀ x y, x < n → y < n → 0 ≤ E x y ∧ E x y < (n : Int)) :
    Calls Try.prog 53 #[.slice (some ⟨b, o, none⟩) n c, .int .i64 7] w (PostV w (.bool (seB n E))) := by
  have hB0 : Below w.heap.size w (w.alloc (.cells #[.slice (some ⟨b, o, none⟩) n c] 22)) := (Below.refl _ _).alloc (Nat.le_refl _) _
  have hmf : ∀ (fn : Fn) (first cap : Array Value) (w : World), (Instr.makeFunc fn first cap).run Try.prog w = .ok (.func fn first cap) w := fun _ _ _ _ => rfl
  have HX := Lib.hid (show (w.alloc (.cells #[.slice (some ⟨b, o, none⟩) n c] 22)).cell? ⟨w.heap.size, 0, none⟩ = some (.slice (some ⟨b, o, none⟩) n c) from World.cell?_alloc_at _ _ _ _ rfl)
  have hG1 := hG.below hB0 (Nat.le_refl _)
  have eg := enters_of Try.func98 (by kernel_rfl) rfl
  have HC := Lib.hid ((allTo_se n E) ▸ forPairs_c (w.alloc (.cells #[.slice (some ⟨b, o, none⟩) n c] 22)) (some ⟨b, o, none⟩) n c (by omega) 98 #[.pointer (some ⟨w.heap.size, 0, none⟩)] _ eg (fun W x y hx hy hb => semi_c W w.heap.size n b o c fb fo fc E (hG1.below hb (Nat.le_refl _)) hn hE ((hb.cell (p := ⟨w.heap.size, 0, none⟩) (by simp)).trans HX.out) x y hx hy))
  clear hG hE hG1 eg
  go_enter Try.func53, Try.ntmps53
  go_wp2_with fail
  refine (HC.out).mono ?_
  rintro e w2 ⟨rfl, hb2⟩
  have hB := hB0.trans (hb2.mono (by simp))
  go_wp2
  go_ret
  exact ⟨rfl, hB⟩

set_option maxHeartbeats 4000000 in
theorem satisfies8_c (w : World) (n b o c : Nat) (fb fo fc : Nat → Nat) (E : Nat → Nat → Int) (hG : Grid w n b o fb fo fc E) (hn : n ≤ 10) (hE : ∀ x y, x < n → y < n → 0 ≤ E x y ∧ E x y < (n : Int)) :
    Calls Try.prog 53 #[.slice (some ⟨b, o, none⟩) n c, .int .i64 8] w (PostV w (.bool (coB n E && seB n E))) := by
  have hB0 : Below w.heap.size w (w.alloc (.cells #[.slice (some ⟨b, o, none⟩) n c] 22)) := (Below.refl _ _).alloc (Nat.le_refl _) _
  have hX : (w.alloc (.cells #[.slice (some ⟨b, o, none⟩) n c] 22)).cell? ⟨w.heap.size, 0, none⟩ = some (.slice (some ⟨b, o, none⟩) n c) := World.cell?_alloc_at _ _ _ _ rfl
  have hG1 := hG.below hB0 (Nat.le_refl _)
  have HG1 := Lib.hid hG1
  have HE := Lib.hid hE
  have HD := Lib.hid (satisfies3_c (w.alloc (.cells #[.slice (some ⟨b, o, none⟩) n c] 22)) n b o c fb fo fc E hG1 hn hE)
  have HB0 := Lib.hid hB0
  clear hG hG1 hE hB0
  rcases hc : coB n E with _ | _
  · rw [hc] at HD
    clear hc
    go_enter Try.func53, Try.ntmps53
    go_wp2_with fail
    refine (HD.out).mono ?_
    rintro e w1 ⟨rfl, hb1⟩
    have hB := HB0.out.trans (hb1.mono (by simp))
    go_wp2
    go_ret
    exact ⟨rfl, hB⟩
  · rw [hc] at HD
    clear hc
    go_enter Try.func53, Try.ntmps53
    go_wp2_with fail
    refine (HD.out).mono ?_
    rintro e w1 ⟨rfl, hb1⟩
    have hX1 := (hb1.cell (p := ⟨w.heap.size, 0, none⟩) (by simp)).trans hX
    have HB1 := Lib.hid (HB0.out.trans (hb1.mono (by simp)))
    have HS := Lib.hid (satisfies7_c w1 n b o c fb fo fc E (HG1.out.below hb1 (Nat.le_refl _)) hn HE.out)
    clear hb1 hX
    go_wp2_with fail
    refine (HS.out).mono ?_
    rintro e w2 ⟨rfl, hb2⟩
    have hB := HB1.out.trans (hb2.mono HB1.out.size)
    go_wp2
    go_ret
    exact ⟨rfl, hB⟩
end Go.Proofs.Ytdcegepkgcflpaa
