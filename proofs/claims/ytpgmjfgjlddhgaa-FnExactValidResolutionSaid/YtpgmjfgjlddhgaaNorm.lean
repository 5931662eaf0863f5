/-
  NormalSet: the least translate of a set, of both sides. Conditions: those of each theorem.
-/
import Derived.Test.YtpgmjfgjlddhgaaSet13c
import Derived.Test.YtpgmjfgjlddhgaaNext
namespace Go.Proofs.Ytpgmjfgjlddhgaa
open Go.RowKit
set_option linter.unusedVariables false
set_option linter.unusedSimpArgs false

theorem Clone_n (w : World) (A : Option Addr) (n c : Nat) (xs : List Int) (hr : RdI w A c xs) (hn : xs.length = n) (hz : n ≤ 1048576) :
    Calls Try.prog 132 #[.slice A n c] w (PostS w xs) := by
  rcases A with _ | p
  · have hx : xs = [] := by
      rcases Nat.eq_zero_or_pos xs.length with h | h
      · exact List.eq_nil_of_length_eq_zero h
      · obtain ⟨_, _, e, _⟩ := hr.at_ 0 h; cases e
    subst hx
    have hq : ∀ (w : World) (a : Option Addr) (n c n' c' : Nat), (binOp .eql 35 (.slice a n c) (.slice none n' c')).run Try.prog w = .ok (.bool a.isNone) w := fun w a n c n' c' => Lib.run_eql_slice_nil w _ _ a n c n' c' Try.underlying35
    clear hr hn
    go_enter Try.func132, Try.ntmps132
    go_wp2
    go_ret
    exact ⟨⟨none, 0, 0, rfl, rfl, OwnI.nil_ _ _⟩, Below.refl _ _⟩
  · have H0 := Lib.hid (OwnI.lit0 w (Nat.le_refl w.heap.size))
    have HR := Lib.hid (hr.below ((Below.refl w.heap.size w).alloc (Nat.le_refl _) (.cells #[] 2)))
    have HN := Lib.hid hn
    have hq : ∀ (w : World) (a : Option Addr) (n c n' c' : Nat), (binOp .eql 35 (.slice a n c) (.slice none n' c')).run Try.prog w = .ok (.bool a.isNone) w := fun w a n c n' c' => Lib.run_eql_slice_nil w _ _ a n c n' c' Try.underlying35
    clear hr hn
    go_enter Try.func132, Try.ntmps132
    go_wp2_with (at_builtin
                 refine wpI_appendL rfl _ _ rfl w.heap.size _ _ 0 [] (some p) n c xs rfl rfl rfl HN.out H0.out HR.out (fun e => nomatch e) (by omega) (by simp) ?_
                 intro A' c' w' ho hg ha)
    have HO := Lib.hid ho
    have hB : Below w.heap.size w w' := ((Below.refl _ _).alloc (Nat.le_refl _) _).trans (below_blk H0.out hg (Nat.le_refl _) (by simp))
    clear ho hg ha
    go_wp2
    go_ret
    exact ⟨⟨A', _, c', rfl, by rw [HN.out], HO.out⟩, hB⟩

def nmTo (N : Nat) (xs : List Int) : Nat → List Int
  | 0 => xs
  | k + 1 => if cmpL (mvL N xs 1 (k : Int)) (nmTo N xs k) < 0 then mvL N xs 1 (k : Int) else nmTo N xs k
theorem nmTo_len (N : Nat) (xs : List Int) (k : Nat) : (nmTo N xs k).length ≤ xs.length := by
  induction k with
  | zero => exact Nat.le_refl _
  | succ k ih =>
    rw [nmTo]
    split
    · exact mvL_len _ _ _ _
    · exact ih
theorem mv_zero {N : Nat} {xs : List Int} (h : Set13 (N : Int) xs) : mvL N xs 1 0 = xs := by
  obtain ⟨_, hbd, _, _⟩ := set13_facts h
  refine rise_ext (putsTo_rise _ _) h.2.pairwise fun z => ?_
  unfold mvL
  rw [putsTo_mem, mem_nth]
  have he : ∀ j, j < xs.length → mvF N xs 1 0 j = nth xs j := fun j hj => by
    have := hbd j hj
    unfold mvF
    rw [Int.mul_one, Int.add_zero, Int.tmod_eq_emod_of_nonneg (by omega), Int.emod_eq_of_lt (by omega) (by omega)]
  constructor
  · rintro ⟨j, hj, e⟩; exact ⟨j, hj, by rw [← he j hj, e]⟩
  · rintro ⟨j, hj, e⟩; exact ⟨j, hj, by rw [he j hj, e]⟩
theorem nmTo_one {N : Nat} {xs : List Int} (h : Set13 (N : Int) xs) : nmTo N xs 1 = xs := by
  rw [nmTo, nmTo, show ((0 : Nat) : Int) = 0 from rfl, mv_zero h, cmpL_self, if_neg (by omega)]

def nmL (n : Int) (xs : List Int) : List Int := if set13 n xs = true then nmTo n.toNat xs n.toNat else []
def nmC (n : Int) (xs : List Int) : Int := if set13 n xs = true then 0 else 1
theorem NormalSet_small (n : Int) (xs : List Int) : (nmL n xs).length ≤ 1048576 := by
  unfold nmL
  split
  · next h => have := nmTo_len n.toNat xs n.toNat; have := set13_len (of_decide_eq_true h : Set13 n xs); omega
  · simp

set_option maxHeartbeats 1000000 in
theorem normalSet_c (w : World) (N : Nat) (A : Option Addr) (m c : Nat) (xs : List Int) (hr : RdI w A c xs) (hm : xs.length = m) (hok : Set13 (N : Int) xs) :
    Calls Try.prog 85 #[.int .i64 (N : Int), .slice A m c] w (PostS w (nmTo N xs N)) := by
  have hN := (set13_facts hok).1
  have hl := (set13_facts hok).2.2.2
  have HR := Lib.hid hr
  have HM := Lib.hid hm
  have HT := Lib.hid (fun (W : World) (hb : Below w.heap.size w W) (b : Nat) (hb2 : b < N) => translate_c W N A m c xs (hr.below hb) hm hok b hb2)
  have HLn := Lib.hid (fun k => Nat.le_trans (nmTo_len N xs k) hl)
  clear hr hm hok hl
  go_enter Try.func85, Try.ntmps85
  go_wp2
  go_loopw [5, 10] (fun o i wr => ∃ (k n1 : Nat) (A1 : Option Addr) (c1 : Nat), k ≤ N ∧ i = .int .i64 k ∧ o = .slice A1 n1 c1 ∧ Hid ((nmTo N xs k).length = n1) ∧ Hid (RdI wr A1 c1 (nmTo N xs k)) ∧ Hid (Below w.heap.size w wr)) (fun _ i _ => N - (intOf i).toNat)
  case atStart => exact ⟨0, m, A, c, Nat.zero_le _, rfl, rfl, HM, HR, Lib.hid (Below.refl _ _)⟩
  case round =>
    obtain ⟨k, n1, A1, c1, hk, rfl, rfl, HL, HO, HB⟩ := hrel
    by_cases hlt : k < N
    · have HTk := Lib.hid (HT.out wr HB.out k hlt)
      have HS := Lib.hid (show nmTo N xs (k + 1) = if cmpL (mvL N xs 1 (k : Int)) (nmTo N xs k) < 0 then mvL N xs 1 (k : Int) else nmTo N xs k from rfl)
      go_wp2_with fail
      refine (HTk.out).mono ?_
      rintro e w1 ⟨⟨A2, n2, c2, rfl, hn2, ho2⟩, hb2⟩
      have HO2 := Lib.hid (HO.out.below hb2)
      have HR2 := Lib.hid ho2.rd
      have HB2 := Lib.hid (HB.out.trans (hb2.mono HB.out.size))
      have HCp := Lib.hid (Compare_c w1 A2 A1 n2 n1 c2 c1 (mvL N xs 1 (k : Int)) (nmTo N xs k) ho2.rd hn2 HO2.out HL.out)
      have HN2 := Lib.hid hn2
      have hbd := cmpL_bd (mvL N xs 1 (k : Int)) (nmTo N xs k)
      generalize cmpL (mvL N xs 1 (k : Int)) (nmTo N xs k) = q at *
      clear ho2 hb2 hn2
      by_cases hq : q < 0
      · have hd : decide (q < 0) = true := decide_eq_true hq
        have HS2 := Lib.hid (show nmTo N xs (k + 1) = mvL N xs 1 (k : Int) by rw [HS.out, if_pos hq])
        clear hq
        go_wp2_with fail
        refine (HCp.out).mono ?_
        rintro e w' ⟨rfl, rfl⟩
        go_wp2
        go_roundw
        case rel => exact ⟨k + 1, n2, A2, c2, by omega, by go_num, rfl, by rw [HS2.out]; exact HN2, by rw [HS2.out]; exact HR2, HB2⟩
        case measure => simp [intOf]; omega
      · have hd : decide (q < 0) = false := decide_eq_false hq
        have HS2 := Lib.hid (show nmTo N xs (k + 1) = nmTo N xs k by rw [HS.out, if_neg hq])
        clear hq
        go_wp2_with fail
        refine (HCp.out).mono ?_
        rintro e w' ⟨rfl, rfl⟩
        go_wp2
        go_roundw
        case rel => exact ⟨k + 1, n1, A1, c1, by omega, by go_num, rfl, by rw [HS2.out]; exact HL, by rw [HS2.out]; exact HO2, HB2⟩
        case measure => simp [intOf]; omega
    · obtain rfl : k = N := by omega
      have HC := Lib.hid (Clone_n wr A1 n1 c1 (nmTo k xs k) HO.out HL.out (by have := HLn.out k; rw [HL.out] at this; omega))
      have hz := HB.out.size
      go_wp2_with fail
      refine (HC.out).mono ?_
      rintro e w2 ⟨⟨A2, n2, c2, rfl, hn2, ho2⟩, hb2⟩
      have HO2 := Lib.hid (ho2.lower (lo' := w.heap.size) hz)
      have HB2 := Lib.hid (HB.out.trans (hb2.mono hz))
      have HN2 := Lib.hid hn2
      clear ho2 hb2 hn2
      go_wp2
      go_ret
      exact ⟨⟨A2, n2, c2, rfl, HN2.out, HO2.out⟩, HB2.out⟩

set_option maxHeartbeats 1000000 in
theorem l13Normal_c (w : World) (N : Nat) (A : Option Addr) (m c : Nat) (xs : List Int) (hr : RdI w A c xs) (hm : xs.length = m) (hd0 : A = none → c = 0) (hok : Set13 (N : Int) xs) :
    Calls Try.prog 84 #[.int .i64 (N : Int), .slice A m c] w (PostS w (nmTo N xs N)) := by
  have hN := (set13_facts hok).1
  have hl := (set13_facts hok).2.2.2
  have HO0 := Lib.hid (l00Own_c w A m c xs hr hm hd0 (by omega))
  have HM := Lib.hid hm
  have HT := Lib.hid (fun (W : World) (hb : Below w.heap.size w W) (b : Nat) (hb2 : b < N) => l13Move_c W N A m c xs (hr.below hb) hm hok 1 b (by omega) (by omega))
  rw [show ((1 : Nat) : Int) = 1 from rfl] at HT
  have HLn := Lib.hid (fun k => Nat.le_trans (nmTo_len N xs k) hl)
  have H1 := Lib.hid (nmTo_one hok)
  clear hr hm hok hl hd0
  go_enter Try.func84, Try.ntmps84
  go_wp2_with fail
  refine (HO0.out).mono ?_
  rintro e w0 ⟨⟨A0, n0, c0, rfl, hn0, ho0⟩, hb0⟩
  have HI0 := Lib.hid (show OwnI w0 w.heap.size A0 c0 (nmTo N xs 1) by rw [H1.out]; exact ho0)
  have HN0 := Lib.hid (show (nmTo N xs 1).length = n0 by rw [H1.out]; exact hn0)
  have HB0 := Lib.hid hb0
  clear hn0 ho0 hb0
  go_wp2
  go_loopw [5, 6] (fun o i wr => ∃ (k n1 : Nat) (A1 : Option Addr) (c1 : Nat), 1 ≤ k ∧ k ≤ N ∧ i = .int .i64 k ∧ o = .slice A1 n1 c1 ∧ Hid ((nmTo N xs k).length = n1) ∧ Hid (OwnI wr w.heap.size A1 c1 (nmTo N xs k)) ∧ Hid (Below w.heap.size w wr)) (fun _ i _ => N - (intOf i).toNat)
  case atStart => exact ⟨1, n0, A0, c0, Nat.le_refl _, hN.1, rfl, rfl, HN0, HI0, HB0⟩
  case round =>
    obtain ⟨k, n1, A1, c1, hk1, hk, rfl, rfl, HL, HO, HB⟩ := hrel
    by_cases hlt : k < N
    · have HTk := Lib.hid (HT.out wr HB.out k hlt)
      have HS := Lib.hid (show nmTo N xs (k + 1) = if cmpL (mvL N xs 1 (k : Int)) (nmTo N xs k) < 0 then mvL N xs 1 (k : Int) else nmTo N xs k from rfl)
      have hz := HB.out.size
      go_wp2_with fail
      refine (HTk.out).mono ?_
      rintro e w1 ⟨⟨A2, n2, c2, rfl, hn2, ho2⟩, hb2⟩
      have HO2 := Lib.hid (HO.out.below hb2)
      have HR2 := Lib.hid (ho2.lower (lo' := w.heap.size) hz)
      have HB2 := Lib.hid (HB.out.trans (hb2.mono hz))
      have HCp := Lib.hid (CompareLists_c w1 A2 A1 n2 n1 c2 c1 (mvL N xs 1 (k : Int)) (nmTo N xs k) ho2.rd hn2 HO2.out.rd HL.out)
      have HN2 := Lib.hid hn2
      have hbd := cmpL_bd (mvL N xs 1 (k : Int)) (nmTo N xs k)
      generalize cmpL (mvL N xs 1 (k : Int)) (nmTo N xs k) = q at *
      clear ho2 hb2 hn2
      by_cases hq : q < 0
      · have hd : decide (q < 0) = true := decide_eq_true hq
        have HS2 := Lib.hid (show nmTo N xs (k + 1) = mvL N xs 1 (k : Int) by rw [HS.out, if_pos hq])
        clear hq
        go_wp2_with fail
        refine (HCp.out).mono ?_
        rintro e w' ⟨rfl, mq, rfl⟩
        go_wp2
        go_roundw
        case rel => exact ⟨k + 1, n2, A2, c2, by omega, by omega, by go_num, rfl, by rw [HS2.out]; exact HN2, Lib.hid (by rw [HS2.out]; exact HR2.out.drewN mq), Lib.hid (below_drewN HB2.out mq)⟩
        case measure => simp [intOf]; omega
      · have hd : decide (q < 0) = false := decide_eq_false hq
        have HS2 := Lib.hid (show nmTo N xs (k + 1) = nmTo N xs k by rw [HS.out, if_neg hq])
        clear hq
        go_wp2_with fail
        refine (HCp.out).mono ?_
        rintro e w' ⟨rfl, mq, rfl⟩
        go_wp2
        go_roundw
        case rel => exact ⟨k + 1, n1, A1, c1, by omega, by omega, by go_num, rfl, by rw [HS2.out]; exact HL, Lib.hid (by rw [HS2.out]; exact HO2.out.drewN mq), Lib.hid (below_drewN HB2.out mq)⟩
        case measure => simp [intOf]; omega
    · obtain rfl : k = N := by omega
      go_wp2
      go_ret
      exact ⟨⟨A1, n1, c1, rfl, HL.out, HO.out⟩, HB.out⟩

set_option maxHeartbeats 1000000 in
theorem specNormalSet_c (w : World) (n : Int) (hn64 : -9223372036854775808 ≤ n ∧ n ≤ 9223372036854775807) (A : Option Addr) (m c : Nat) (xs : List Int) (hr : RdI w A c xs) (hm : xs.length = m) (hw : WfL xs) (hz : (m : Int) ≤ 1048576) (hd0 : A = none → c = 0) :
    Calls Try.prog 41 #[.int .i64 n, .slice A m c] w (PostSC w (nmL n xs) (nmC n xs)) := by
  have hS := l13Set_c w A m c xs n hr hm
  rcases hs : set13 n xs with _ | _
  · rw [hs] at hS
    rw [show nmC n xs = 1 by simp [nmC, hs], show nmL n xs = [] by simp [nmL, hs]]
    have HS := Lib.hid hS
    clear hS hs hr hm hd0
    go_enter Try.func41, Try.ntmps41
    go_wp2_with fail
    refine (HS.out).mono ?_
    rintro e w1 ⟨rfl, q, rfl⟩
    go_wp2
    go_ret2
    exact ⟨⟨none, 0, 0, rfl, rfl, OwnI.nil_ _ _⟩, below_drewN (Below.refl _ _) q⟩
  · rw [hs] at hS
    have HS := Lib.hid hS
    have hok : Set13 n xs := of_decide_eq_true hs
    obtain ⟨N, rfl⟩ : ∃ N : Nat, n = (N : Int) := ⟨n.toNat, by have := hok.1; omega⟩
    rw [show nmC (N : Int) xs = 0 by simp [nmC, hs], show nmL (N : Int) xs = nmTo N xs N by unfold nmL; rw [if_pos hs]; rfl]
    have HM := Lib.hid (fun (q : Nat) => l13Normal_c (w.drewN q) N A m c xs (hr.drewN q) hm hd0 hok)
    generalize nmTo N xs N = T at *
    clear hS hs hr hm hok hd0
    go_enter Try.func41, Try.ntmps41
    go_wp2_with fail
    refine (HS.out).mono ?_
    rintro e w1 ⟨rfl, q, rfl⟩
    go_wp2_with fail
    refine (HM.out q).mono ?_
    rintro e w2 ⟨⟨A1, n1, c1, rfl, hn1', ho1⟩, hb2⟩
    have HO1 := Lib.hid ho1
    have HN1 := Lib.hid hn1'
    have HB1 := Lib.hid ((below_drewN (Below.refl w.heap.size w) q).trans hb2)
    clear ho1 hn1' hb2
    go_wp2
    go_ret2
    exact ⟨⟨A1, n1, c1, rfl, HN1.out, HO1.out⟩, HB1.out⟩
set_option maxHeartbeats 1000000 in
theorem implNormalSet_c (w : World) (n : Int) (hn64 : -9223372036854775808 ≤ n ∧ n ≤ 9223372036854775807) (A : Option Addr) (m c : Nat) (xs : List Int) (hr : RdI w A c xs) (hm : xs.length = m) (hw : WfL xs) (hz : (m : Int) ≤ 1048576) (hd0 : A = none → c = 0) :
    Calls Try.prog 42 #[.int .i64 n, .slice A m c] w (PostSC w (nmL n xs) (nmC n xs)) := by
  have hS := isResidueSet_c w A m c xs n hr hm
  rcases hs : set13 n xs with _ | _
  · rw [hs] at hS
    rw [show nmC n xs = 1 by simp [nmC, hs], show nmL n xs = [] by simp [nmL, hs]]
    have HS := Lib.hid hS
    clear hS hs hr hm hd0
    go_enter Try.func42, Try.ntmps42
    go_wp2_with fail
    refine (HS.out).mono ?_
    rintro e w1 ⟨rfl, rfl⟩
    go_wp2
    go_ret2
    exact ⟨⟨none, 0, 0, rfl, rfl, OwnI.nil_ _ _⟩, Below.refl _ _⟩
  · rw [hs] at hS
    have HS := Lib.hid hS
    have hok : Set13 n xs := of_decide_eq_true hs
    obtain ⟨N, rfl⟩ : ∃ N : Nat, n = (N : Int) := ⟨n.toNat, by have := hok.1; omega⟩
    rw [show nmC (N : Int) xs = 0 by simp [nmC, hs], show nmL (N : Int) xs = nmTo N xs N by unfold nmL; rw [if_pos hs]; rfl]
    have HM := Lib.hid (fun (_ : Unit) => normalSet_c w N A m c xs hr hm hok)
    generalize nmTo N xs N = T at *
    clear hS hs hr hm hok hd0
    go_enter Try.func42, Try.ntmps42
    go_wp2_with fail
    refine (HS.out).mono ?_
    rintro e w1 ⟨rfl, rfl⟩
    go_wp2_with fail
    refine (HM.out ()).mono ?_
    rintro e w2 ⟨⟨A1, n1, c1, rfl, hn1', ho1⟩, hb2⟩
    have HO1 := Lib.hid ho1
    have HN1 := Lib.hid hn1'
    have HB1 := Lib.hid (hb2)
    clear ho1 hn1' hb2
    go_wp2
    go_ret2
    exact ⟨⟨A1, n1, c1, rfl, HN1.out, HO1.out⟩, HB1.out⟩
end Go.Proofs.Ytpgmjfgjlddhgaa
