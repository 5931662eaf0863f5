/-
  LineThrough: contracts of the program's and of the reference's functions. Conditions: those of each theorem.
-/
import Derived.Test.YtnpbkkglnbobaaaHas
namespace Go.Proofs.Ytnpbkkglnbobaaa
open Go.RowKit
set_option linter.unusedVariables false
set_option linter.unusedSimpArgs false

def lineP (xss : List (List Int)) (a b : Int) (k : Nat) : Bool := hasB (row xss k) a && hasB (row xss k) b
def lineK (xss : List (List Int)) (a b : Int) : Int := firstIdx (lineP xss a b) xss.length
def lineV (p : Int) (xss : List (List Int)) (a b : Int) : Value :=
  if dsgB p xss = false then .tuple #[.int .i64 0, .int .i64 1]
  else if inB a 0 (p - 1) = false ∨ inB b 0 (p - 1) = false then .tuple #[.int .i64 0, .int .i64 2]
  else if lineK xss a b < 0 then .tuple #[.int .i64 0, .int .i64 3]
  else .tuple #[.int .i64 (lineK xss a b), .int .i64 0]

def lineI (p : Int) (xss : List (List Int)) (a b : Int) : Int := if dsgB p xss = false then 0 else if inB a 0 (p - 1) = false ∨ inB b 0 (p - 1) = false then 0 else if lineK xss a b < 0 then 0 else lineK xss a b
def lineC (p : Int) (xss : List (List Int)) (a b : Int) : Int := if dsgB p xss = false then 1 else if inB a 0 (p - 1) = false ∨ inB b 0 (p - 1) = false then 2 else if lineK xss a b < 0 then 3 else 0
theorem lineV_eq (p : Int) (xss : List (List Int)) (a b : Int) : lineV p xss a b = .tuple #[.int .i64 (lineI p xss a b), .int .i64 (lineC p xss a b)] := by
  unfold lineV lineI lineC
  repeat' split
  all_goals rfl

theorem firstIdx_ge (p : Nat → Bool) (n : Nat) : -1 ≤ firstIdx p n := by
  unfold firstIdx
  split <;> omega

set_option maxHeartbeats 2000000 in
theorem specLineThrough_v (w : World) (p : Int) (hp : -9223372036854775808 ≤ p ∧ p ≤ 9223372036854775807) (A : Option Addr) (n c : Nat) (R : Spine) (xss : List (List Int)) (hr : RdM w A c R xss) (hn : xss.length = n) (hw : WfM xss) (hz : (n : Int) + (tot xss : Nat) ≤ 1048576)
    (a : Int) (ha : -9223372036854775808 ≤ a ∧ a ≤ 9223372036854775807) (b : Int) (hb : -9223372036854775808 ≤ b ∧ b ≤ 9223372036854775807) :
    Calls Try.prog 30 #[.agg #[.int .i64 p, .slice A n c], .int .i64 a, .int .i64 b] w (PostV w (lineV p xss a b)) := by
  have hm : n ≤ 1048576 := by omega
  have hB0 : Below w.heap.size w (w.alloc (.cells #[.int .i64 p, .slice A n c] 42)) := below_boxed _ _
  have hX := BoxD.made w p A n c 42
  have hO := l10Ok_c _ w.heap.size A n c R xss p hX (hr.below hB0) hn
  have HB0 := Lib.hid hB0
  have HX := Lib.hid hX
  have HN := Lib.hid hn
  rcases hd : dsgB p xss with _ | _
  · rw [hd] at hO
    rw [show lineV p xss a b = .tuple #[.int .i64 0, .int .i64 1] by simp [lineV, hd]]
    have HO := Lib.hid hO
    clear hO hB0 hX hd hr hn
    go_enter Try.func30, Try.ntmps30
    go_wp2_with fail
    refine (HO.out).mono ?_
    rintro e w1 ⟨rfl, m, rfl⟩
    go_wp2
    go_ret2
    exact ⟨rfl, below_drewN HB0.out m⟩
  · rw [hd] at hO
    have HO := Lib.hid hO
    have hD := dsgB_true.1 hd
    have hp1 : 1 ≤ p := hD.1.1
    have hp2 : p ≤ 32 := hD.1.2
    have hia := in_c a 0 (p - 1)
    have hib := in_c b 0 (p - 1)
    by_cases h1 : 0 ≤ a ∧ a ≤ p - 1
    · rw [inB_true.2 h1] at hia
      have HIA := Lib.hid hia
      by_cases h2 : 0 ≤ b ∧ b ≤ p - 1
      · rw [inB_true.2 h2] at hib
        have HIB := Lib.hid hib
        have HV := Lib.hid (show lineV p xss a b = if lineK xss a b < 0 then .tuple #[.int .i64 0, .int .i64 3] else .tuple #[.int .i64 (lineK xss a b), .int .i64 0] by
          unfold lineV; rw [if_neg (by simp [hd]), if_neg (by rw [inB_true.2 h1, inB_true.2 h2]; simp)])
        rw [HV.out]
        have HR := Lib.hid hr
        obtain ⟨T, hT⟩ : ∃ T : Value, T = (if lineK xss a b < 0 then .tuple #[.int .i64 0, .int .i64 3] else .tuple #[.int .i64 (lineK xss a b), .int .i64 0]) := ⟨_, rfl⟩
        rw [← hT]
        have HT := Lib.hid hT
        clear hO hB0 hX hd hr hn hD hia hib h1 h2 HV hT
        go_enter Try.func30, Try.ntmps30
        go_wp2_with fail
        refine (HO.out).mono ?_
        rintro e w1 ⟨rfl, m, rfl⟩
        have hx := (HX.out).drewN m
        have hB1 := below_drewN HB0.out m
        generalize (w.alloc (.cells #[.int .i64 p, .slice A n c] 42)).drewN m = w1 at *
        have hc0 := hx.c0
        have hc1 := hx.c1
        go_wp2_with fail
        refine (HIA.out _).mono ?_
        rintro e w' ⟨rfl, rfl⟩
        go_wp2_with fail
        refine (HIB.out _).mono ?_
        rintro e w' ⟨rfl, rfl⟩
        go_wp2
        go_loop [8] (fun i => ∃ k : Nat, k ≤ n ∧ i = .int .i64 k ∧ Hid (∀ j, j < k → lineP xss a b j = false)) (fun i => n - (intOf i).toNat)
        case atStart => exact ⟨0, Nat.zero_le _, rfl, fun j hj => absurd hj (by omega)⟩
        case round =>
          obtain ⟨k, hk, rfl, hP⟩ := hrel
          by_cases hlt : k < n
          · have hkx : k < xss.length := by rw [HN.out]; exact hlt
            have hr1 := (HR.out).below hB1
            obtain ⟨b1, off, rfl, hb, hc⟩ := hr1.at_ k hkx
            have HH := Lib.hid (has_c w1 (R k).1 (row xss k).length (R k).2 (row xss k) a (hr1.rows k hkx) rfl)
            have HH2 := Lib.hid (has_c w1 (R k).1 (row xss k).length (R k).2 (row xss k) b (hr1.rows k hkx) rfl)
            have HL := Lib.hid (show lineP xss a b k = (hasB (row xss k) a && hasB (row xss k) b) from rfl)
            clear hr1
            generalize hasB (row xss k) a = q1 at *
            generalize hasB (row xss k) b = q2 at *
            cases q1
            · go_wp2_with (go_at_call 71; refine (HH.out).mono ?_; rintro e w' ⟨rfl, rfl⟩)
              go_round
              case rel =>
                refine ⟨k + 1, by omega, by go_num, fun j hj => ?_⟩
                by_cases e : j = k
                · subst e; rw [HL.out]; rfl
                · exact hP.out j (by omega)
              case measure => simp [intOf]; omega
            · cases q2
              · go_wp2_with fail
                refine (HH.out).mono ?_
                rintro e w' ⟨rfl, rfl⟩
                go_wp2_with fail
                refine (HH2.out).mono ?_
                rintro e w' ⟨rfl, rfl⟩
                go_wp2
                go_round
                case rel =>
                  refine ⟨k + 1, by omega, by go_num, fun j hj => ?_⟩
                  by_cases e : j = k
                  · subst e; rw [HL.out]; rfl
                  · exact hP.out j (by omega)
                case measure => simp [intOf]; omega
              · have HF := Lib.hid (show T = .tuple #[.int .i64 (k : Int), .int .i64 0] by
                  have : lineK xss a b = (k : Int) := firstIdx_hit hkx HL.out hP.out
                  rw [HT.out, this, if_neg (by omega)])
                go_wp2_with fail
                refine (HH.out).mono ?_
                rintro e w' ⟨rfl, rfl⟩
                go_wp2_with fail
                refine (HH2.out).mono ?_
                rintro e w' ⟨rfl, rfl⟩
                go_wp2
                go_ret2
                exact ⟨by rw [HF.out]; rfl, hB1⟩
          · obtain rfl : k = n := by omega
            have HF := Lib.hid (show T = .tuple #[.int .i64 0, .int .i64 3] by
              have : lineK xss a b = -1 := by unfold lineK; rw [HN.out]; exact firstIdx_miss hP.out
              rw [HT.out, this, if_pos (by omega)])
            go_wp2
            go_ret2
            exact ⟨by rw [HF.out]; rfl, hB1⟩
      · rw [inB_false.2 h2] at hib
        have HIB := Lib.hid hib
        rw [show lineV p xss a b = .tuple #[.int .i64 0, .int .i64 2] by unfold lineV; rw [if_neg (by simp [hd]), if_pos (.inr (inB_false.2 h2))]]
        clear hO hB0 hX hd hr hn hD hia hib h1 h2
        go_enter Try.func30, Try.ntmps30
        go_wp2_with fail
        refine (HO.out).mono ?_
        rintro e w1 ⟨rfl, m, rfl⟩
        have hx := (HX.out).drewN m
        have hB1 := below_drewN HB0.out m
        generalize (w.alloc (.cells #[.int .i64 p, .slice A n c] 42)).drewN m = w1 at *
        have hc0 := hx.c0
        go_wp2_with fail
        refine (HIA.out _).mono ?_
        rintro e w' ⟨rfl, rfl⟩
        go_wp2_with fail
        refine (HIB.out _).mono ?_
        rintro e w' ⟨rfl, rfl⟩
        go_wp2
        go_ret2
        exact ⟨rfl, hB1⟩
    · rw [inB_false.2 h1] at hia
      have HIA := Lib.hid hia
      rw [show lineV p xss a b = .tuple #[.int .i64 0, .int .i64 2] by unfold lineV; rw [if_neg (by simp [hd]), if_pos (.inl (inB_false.2 h1))]]
      clear hO hB0 hX hd hr hn hD hia hib h1
      go_enter Try.func30, Try.ntmps30
      go_wp2_with fail
      refine (HO.out).mono ?_
      rintro e w1 ⟨rfl, m, rfl⟩
      have hx := (HX.out).drewN m
      have hB1 := below_drewN HB0.out m
      generalize (w.alloc (.cells #[.int .i64 p, .slice A n c] 42)).drewN m = w1 at *
      have hc0 := hx.c0
      go_wp2_with fail
      refine (HIA.out _).mono ?_
      rintro e w' ⟨rfl, rfl⟩
      go_wp2
      go_ret2
      exact ⟨rfl, hB1⟩

/-- The literal of LineThrough. -/
theorem throughP_c (W : World) (B1 B2 : Nat) (A : Option Addr) (m c : Nat) (xs : List Int) (a b : Int) (hr : RdI W A c xs) (hn : xs.length = m) (h1 : W.cell? ⟨B1, 0, none⟩ = some (.int .i64 a)) (h2 : W.cell? ⟨B2, 0, none⟩ = some (.int .i64 b)) :
    Calls Try.prog 74 #[.slice A m c, .pointer (some ⟨B1, 0, none⟩), .pointer (some ⟨B2, 0, none⟩)] W (PostV W (.bool (hasB xs a && hasB xs b))) := by
  have H1 := Lib.hid (contains_c W A m c xs a hr hn)
  have H2 := Lib.hid (contains_c W A m c xs b hr hn)
  clear hr hn
  generalize hasB xs a = q1 at *
  generalize hasB xs b = q2 at *
  cases q1
  · go_enter Try.func74, Try.ntmps74
    go_wp2_with fail
    refine (H1.out).mono ?_
    rintro e w' ⟨rfl, rfl⟩
    go_wp2
    go_ret
    exact ⟨rfl, Below.refl _ _⟩
  · cases q2
    all_goals
      go_enter Try.func74, Try.ntmps74
      go_wp2_with fail
      refine (H1.out).mono ?_
      rintro e w' ⟨rfl, rfl⟩
      go_wp2_with fail
      refine (H2.out).mono ?_
      rintro e w' ⟨rfl, rfl⟩
      go_wp2
      go_ret
      exact ⟨rfl, Below.refl _ _⟩

set_option maxHeartbeats 2000000 in
theorem implLineThrough_v (w : World) (p : Int) (hp : -9223372036854775808 ≤ p ∧ p ≤ 9223372036854775807) (A : Option Addr) (n c : Nat) (R : Spine) (xss : List (List Int)) (hr : RdM w A c R xss) (hn : xss.length = n) (hw : WfM xss) (hz : (n : Int) + (tot xss : Nat) ≤ 1048576)
    (a : Int) (ha : -9223372036854775808 ≤ a ∧ a ≤ 9223372036854775807) (b : Int) (hb : -9223372036854775808 ≤ b ∧ b ≤ 9223372036854775807) :
    Calls Try.prog 32 #[.agg #[.int .i64 p, .slice A n c], .int .i64 a, .int .i64 b] w (PostV w (lineV p xss a b)) := by
  have hm : n ≤ 1048576 := by omega
  obtain ⟨W, hW⟩ : ∃ W, W = ((w.alloc (.cells #[.int .i64 p, .slice A n c] 42)).alloc (.cells #[.int .i64 a] 2)).alloc (.cells #[.int .i64 b] 2) := ⟨_, rfl⟩
  have hB0 : Below w.heap.size w W := by rw [hW]; exact ((below_boxed _ _).alloc (by simp) _).alloc (by simp; omega) _
  have hX : BoxD W w.heap.size p A n c := by rw [hW]; exact ⟨by simp [go_sem], by simp [go_sem]⟩
  have hxa : W.cell? ⟨w.heap.size + 1, 0, none⟩ = some (.int .i64 a) := by rw [hW]; simp [go_sem]
  have hxb : W.cell? ⟨w.heap.size + 1 + 1, 0, none⟩ = some (.int .i64 b) := by rw [hW]; simp [go_sem]
  have hV := ValidDesign_c W p A n c R xss (hr.below hB0) hn
  have hmf : ∀ (fn : Fn) (first cap : Array Value) (w : World), (Instr.makeFunc fn first cap).run Try.prog w = .ok (.func fn first cap) w := fun _ _ _ _ => rfl
  rcases hd : dsgB p xss with _ | _
  · rw [hd] at hV
    rw [show lineV p xss a b = .tuple #[.int .i64 0, .int .i64 1] by simp [lineV, hd]]
    rw [hW] at hV hB0
    have HV := Lib.hid hV
    have HB0 := Lib.hid hB0
    clear hV hB0 hX hxa hxb hW hd hr hn
    go_enter Try.func32, Try.ntmps32
    go_wp2_with fail
    refine (HV.out).mono ?_
    rintro e w1 ⟨rfl, hb1⟩
    have hB := HB0.out.trans (hb1.mono HB0.out.size)
    go_wp2
    go_ret2
    exact ⟨rfl, hB⟩
  · rw [hd] at hV
    have hD := dsgB_true.1 hd
    have hp1 : 1 ≤ p := hD.1.1
    have hp2 : p ≤ 32 := hD.1.2
    have hia := within_c a 0 (p - 1)
    have hib := within_c b 0 (p - 1)
    have HA := Lib.hid (cell_size hxa)
    have HBb := Lib.hid (cell_size hxb)
    have HX := Lib.hid hX
    have HXa := Lib.hid hxa
    have HXb := Lib.hid hxb
    have HR := Lib.hid (hr.below hB0)
    by_cases h1 : 0 ≤ a ∧ a ≤ p - 1
    · rw [inB_true.2 h1] at hia
      have HIA := Lib.hid hia
      by_cases h2 : 0 ≤ b ∧ b ≤ p - 1
      · rw [inB_true.2 h2] at hib
        have HIB := Lib.hid hib
        obtain ⟨T, hT⟩ : ∃ T : Value, T = lineV p xss a b := ⟨_, rfl⟩
        rw [← hT]
        have HT := Lib.hid (hT.trans (show lineV p xss a b = if lineK xss a b < 0 then .tuple #[.int .i64 0, .int .i64 3] else .tuple #[.int .i64 (lineK xss a b), .int .i64 0] by
          unfold lineV; rw [if_neg (by simp [hd]), if_neg (by rw [inB_true.2 h1, inB_true.2 h2]; simp)]))
        have HI := Lib.hid (fun (w1 : World) (hb1 : Below W.heap.size W w1) => indexFuncM w1 A n c R xss 74 #[.pointer (some ⟨w.heap.size + 1, 0, none⟩), .pointer (some ⟨w.heap.size + 1 + 1, 0, none⟩)] (lineP xss a b) (enters_of Try.func74 (by kernel_rfl) rfl) (HR.out.below hb1) hn (fun W2 k hk hb2 =>
          throughP_c W2 _ _ _ _ _ (row xss k) a b (((HR.out.below hb1).rows k (by omega)).keep hb2.size fun _ hp => hb2.cell hp) rfl
            ((hb2.cell (p := ⟨w.heap.size + 1, 0, none⟩) (Nat.lt_of_lt_of_le HA.out hb1.size)).trans ((hb1.cell (p := ⟨w.heap.size + 1, 0, none⟩) HA.out).trans HXa.out))
            ((hb2.cell (p := ⟨w.heap.size + 1 + 1, 0, none⟩) (Nat.lt_of_lt_of_le HBb.out hb1.size)).trans ((hb1.cell (p := ⟨w.heap.size + 1 + 1, 0, none⟩) HBb.out).trans HXb.out))))
        have HK := Lib.hid (show lineK xss a b = firstIdx (lineP xss a b) n by rw [← hn]; rfl)
        rw [HK.out] at HT
        have hge := firstIdx_ge (lineP xss a b) n
        generalize firstIdx (lineP xss a b) n = q at *
        have HV := Lib.hid hV
        have HB0 := Lib.hid hB0
        clear hV hB0 hX hxa hxb hd hr hn hD hia hib h1 h2 hT
        by_cases hq : q < 0
        · have HF := Lib.hid (show T = .tuple #[.int .i64 0, .int .i64 3] by rw [HT.out, if_pos hq])
          have HW := Lib.hid hW
          rw [hW] at HV
          clear hW
          go_enter Try.func32, Try.ntmps32
          go_wp2_with fail
          refine (HV.out).mono ?_
          rintro e w1 ⟨rfl, hb1⟩
          rw [← HW.out] at hb1
          have hB := HB0.out.trans (hb1.mono HB0.out.size)
          have hx := HX.out.below hb1
          have hc0 := hx.c0
          have hc1 := hx.c1
          have hca := (hb1.cell (p := ⟨w.heap.size + 1, 0, none⟩) HA.out).trans HXa.out
          have hcb := (hb1.cell (p := ⟨w.heap.size + 1 + 1, 0, none⟩) HBb.out).trans HXb.out
          have HI1 := Lib.hid (HI.out w1 hb1)
          clear hb1 hx
          go_wp2_with fail
          refine (HIA.out _).mono ?_
          rintro e w' ⟨rfl, rfl⟩
          go_wp2_with fail
          refine (HIB.out _).mono ?_
          rintro e w' ⟨rfl, rfl⟩
          go_wp2_with fail
          refine (HI1.out).mono ?_
          rintro e w2 ⟨rfl, hb2⟩
          have hB2 := hB.trans (hb2.mono hB.size)
          go_wp2
          go_ret2
          exact ⟨by rw [HF.out]; rfl, hB2⟩
        · have HF := Lib.hid (show T = .tuple #[.int .i64 q, .int .i64 0] by rw [HT.out, if_neg hq])
          have HW := Lib.hid hW
          rw [hW] at HV
          clear hW
          go_enter Try.func32, Try.ntmps32
          go_wp2_with fail
          refine (HV.out).mono ?_
          rintro e w1 ⟨rfl, hb1⟩
          rw [← HW.out] at hb1
          have hB := HB0.out.trans (hb1.mono HB0.out.size)
          have hx := HX.out.below hb1
          have hc0 := hx.c0
          have hc1 := hx.c1
          have hca := (hb1.cell (p := ⟨w.heap.size + 1, 0, none⟩) HA.out).trans HXa.out
          have hcb := (hb1.cell (p := ⟨w.heap.size + 1 + 1, 0, none⟩) HBb.out).trans HXb.out
          have HI1 := Lib.hid (HI.out w1 hb1)
          clear hb1 hx
          go_wp2_with fail
          refine (HIA.out _).mono ?_
          rintro e w' ⟨rfl, rfl⟩
          go_wp2_with fail
          refine (HIB.out _).mono ?_
          rintro e w' ⟨rfl, rfl⟩
          go_wp2_with fail
          refine (HI1.out).mono ?_
          rintro e w2 ⟨rfl, hb2⟩
          have hB2 := hB.trans (hb2.mono hB.size)
          go_wp2
          go_ret2
          exact ⟨by rw [HF.out]; rfl, hB2⟩
      · rw [inB_false.2 h2] at hib
        have HIB := Lib.hid hib
        rw [show lineV p xss a b = .tuple #[.int .i64 0, .int .i64 2] by unfold lineV; rw [if_neg (by simp [hd]), if_pos (.inr (inB_false.2 h2))]]
        have HV := Lib.hid hV
        have HB0 := Lib.hid hB0
        have HW := Lib.hid hW
        rw [hW] at HV
        clear hV hB0 hX hxa hxb hd hr hn hD hia hib h1 h2 hW
        go_enter Try.func32, Try.ntmps32
        go_wp2_with fail
        refine (HV.out).mono ?_
        rintro e w1 ⟨rfl, hb1⟩
        rw [← HW.out] at hb1
        have hB := HB0.out.trans (hb1.mono HB0.out.size)
        have hx := HX.out.below hb1
        have hc0 := hx.c0
        have hc1 := hx.c1
        have hca := (hb1.cell (p := ⟨w.heap.size + 1, 0, none⟩) HA.out).trans HXa.out
        have hcb := (hb1.cell (p := ⟨w.heap.size + 1 + 1, 0, none⟩) HBb.out).trans HXb.out
        clear hb1 hx
        go_wp2_with fail
        refine (HIA.out _).mono ?_
        rintro e w' ⟨rfl, rfl⟩
        go_wp2_with fail
        refine (HIB.out _).mono ?_
        rintro e w' ⟨rfl, rfl⟩
        go_wp2
        go_ret2
        exact ⟨rfl, hB⟩
    · rw [inB_false.2 h1] at hia
      have HIA := Lib.hid hia
      rw [show lineV p xss a b = .tuple #[.int .i64 0, .int .i64 2] by unfold lineV; rw [if_neg (by simp [hd]), if_pos (.inl (inB_false.2 h1))]]
      have HV := Lib.hid hV
      have HB0 := Lib.hid hB0
      have HW := Lib.hid hW
      rw [hW] at HV
      clear hV hB0 hX hxa hxb hd hr hn hD hia hib h1 hW
      go_enter Try.func32, Try.ntmps32
      go_wp2_with fail
      refine (HV.out).mono ?_
      rintro e w1 ⟨rfl, hb1⟩
      rw [← HW.out] at hb1
      have hB := HB0.out.trans (hb1.mono HB0.out.size)
      have hx := HX.out.below hb1
      have hc0 := hx.c0
      have hca := (hb1.cell (p := ⟨w.heap.size + 1, 0, none⟩) HA.out).trans HXa.out
      clear hb1 hx
      go_wp2_with fail
      refine (HIA.out _).mono ?_
      rintro e w' ⟨rfl, rfl⟩
      go_wp2
      go_ret2
      exact ⟨rfl, hB⟩

theorem specLineThrough_c (w : World) (p : Int) (hp : -9223372036854775808 ≤ p ∧ p ≤ 9223372036854775807) (A : Option Addr) (n c : Nat) (R : Spine) (xss : List (List Int)) (hr : RdM w A c R xss) (hn : xss.length = n) (hw : WfM xss) (hz : (n : Int) + (tot xss : Nat) ≤ 1048576)
    (a : Int) (ha : -9223372036854775808 ≤ a ∧ a ≤ 9223372036854775807) (b : Int) (hb : -9223372036854775808 ≤ b ∧ b ≤ 9223372036854775807) :
    Calls Try.prog 30 #[.agg #[.int .i64 p, .slice A n c], .int .i64 a, .int .i64 b] w (PostV w (.tuple #[.int .i64 (lineI p xss a b), .int .i64 (lineC p xss a b)])) :=
  lineV_eq p xss a b ▸ specLineThrough_v w p hp A n c R xss hr hn hw hz a ha b hb
theorem implLineThrough_c (w : World) (p : Int) (hp : -9223372036854775808 ≤ p ∧ p ≤ 9223372036854775807) (A : Option Addr) (n c : Nat) (R : Spine) (xss : List (List Int)) (hr : RdM w A c R xss) (hn : xss.length = n) (hw : WfM xss) (hz : (n : Int) + (tot xss : Nat) ≤ 1048576)
    (a : Int) (ha : -9223372036854775808 ≤ a ∧ a ≤ 9223372036854775807) (b : Int) (hb : -9223372036854775808 ≤ b ∧ b ≤ 9223372036854775807) :
    Calls Try.prog 32 #[.agg #[.int .i64 p, .slice A n c], .int .i64 a, .int .i64 b] w (PostV w (.tuple #[.int .i64 (lineI p xss a b), .int .i64 (lineC p xss a b)])) :=
  lineV_eq p xss a b ▸ implLineThrough_v w p hp A n c R xss hr hn hw hz a ha b hb
end Go.Proofs.Ytnpbkkglnbobaaa
