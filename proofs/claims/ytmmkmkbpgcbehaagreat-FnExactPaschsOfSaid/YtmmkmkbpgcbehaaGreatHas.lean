/-
  Membership: l00Has of the reference, slices.Index and slices.Contains of the library; the program's filtered and its kin. Conditions: those of each theorem.
-/
import Derived.Test.YtmmkmkbpgcbehaaGreatValid
namespace Go.Proofs.YtmmkmkbpgcbehaaGreat
open Go.RowKit
set_option linter.unusedVariables false
set_option linter.unusedSimpArgs false

def hasB (xs : List Int) (x : Int) : Bool := decide (x ∈ xs)
theorem hasB_true {xs : List Int} {x : Int} : hasB xs x = true ↔ x ∈ xs := by simp [hasB]
theorem hasB_false {xs : List Int} {x : Int} : hasB xs x = false ↔ x ∉ xs := by simp [hasB]
theorem mem_nth {xs : List Int} {x : Int} : x ∈ xs ↔ ∃ k, k < xs.length ∧ nth xs k = x := by
  constructor
  · intro h
    obtain ⟨k, hk, e⟩ := List.mem_iff_getElem.1 h
    exact ⟨k, hk, by rw [nth_eq hk]; exact e⟩
  · rintro ⟨k, hk, rfl⟩
    rw [nth_eq hk]
    exact List.getElem_mem hk
theorem hasB_hit {xs : List Int} {x : Int} {k : Nat} (hk : k < xs.length) (h : nth xs k = x) : hasB xs x = true := hasB_true.2 (mem_nth.2 ⟨k, hk, h⟩)
theorem hasB_miss {xs : List Int} {x : Int} (h : ∀ j, j < xs.length → nth xs j ≠ x) : hasB xs x = false := hasB_false.2 fun hm => by
  obtain ⟨k, hk, e⟩ := mem_nth.1 hm
  exact h k hk e

set_option maxHeartbeats 400000 in
theorem has_c (w : World) (A : Option Addr) (n c : Nat) (xs : List Int) (x : Int) (hr : RdI w A c xs) (hn : xs.length = n) :
    Calls Tryz.prog 29 #[.slice A n c, .int .i64 x] w fun e w' => e = .returned (.bool (hasB xs x)) ∧ w = w' := by
  have hm : n ≤ 9223372036854775807 := by have h1 := hr.le; have h2 := hr.cap; unfold maxLen at h2; omega
  have HR := Lib.hid hr
  have HN := Lib.hid hn
  clear hr hn
  go_enter Tryz.func29, Tryz.ntmps29
  go_wp2
  go_loop [5] (fun i => ∃ k : Nat, k ≤ n ∧ i = .int .i64 k ∧ Hid (∀ j, j < k → nth xs j ≠ x)) (fun i => n - (intOf i).toNat)
  case atStart => exact ⟨0, Nat.zero_le _, rfl, fun j hj => absurd hj (by omega)⟩
  case round =>
    obtain ⟨k, hk, rfl, hP⟩ := hrel
    by_cases hlt : k < n
    · have hkx : k < xs.length := by rw [HN.out]; exact hlt
      obtain ⟨b, off, rfl, hb, hc⟩ := HR.out.at_ k hkx
      by_cases h1 : nth xs k = x
      · have hd : (nth xs k == x) = true := by simp [h1]
        have HF := Lib.hid (hasB_hit hkx h1)
        clear h1
        go_wp2
        go_ret
        exact ⟨ret_b HF.out.symm, rfl⟩
      · have hd : (nth xs k == x) = false := by simp [h1]
        have H1 := Lib.hid h1
        clear h1
        go_wp2
        go_round
        case rel =>
          refine ⟨k + 1, by omega, by go_num, fun j hj => ?_⟩
          by_cases e : j = k
          · subst e; exact H1.out
          · exact hP.out j (by omega)
        case measure => simp [intOf]; omega
    · obtain rfl : k = n := by omega
      have HF := Lib.hid (hasB_miss (xs := xs) (x := x) (by rw [HN.out]; exact hP.out))
      go_wp2
      go_ret
      exact ⟨ret_b HF.out.symm, rfl⟩

def idxB (xs : List Int) (x : Int) (k : Nat) : Bool := decide (nth xs k = x)
theorem firstIdx_lt {p : Nat → Bool} {n : Nat} : firstIdx p n < (n : Int) := by
  unfold firstIdx
  rcases h : (List.range n).find? p with _ | k
  · simp
    omega
  · have := List.mem_range.1 (List.mem_of_find?_eq_some h)
    simp
    omega
theorem hasB_idx (xs : List Int) (x : Int) : hasB xs x = decide (0 ≤ firstIdx (idxB xs x) xs.length) := by
  by_cases h : x ∈ xs
  · rw [hasB_true.2 h]
    obtain ⟨k, hk, e⟩ := mem_nth.1 h
    symm
    refine decide_eq_true ?_
    unfold firstIdx
    rcases hf : (List.range xs.length).find? (idxB xs x) with _ | j
    · have := List.find?_eq_none.1 hf k (List.mem_range.2 hk)
      simp [idxB, e] at this
    · simp
  · rw [hasB_false.2 h]
    symm
    refine decide_eq_false ?_
    rw [firstIdx_miss fun j hj => by unfold idxB; exact decide_eq_false fun e => h (mem_nth.2 ⟨j, hj, e⟩)]
    omega

set_option maxHeartbeats 400000 in
theorem index_c (w : World) (A : Option Addr) (n c : Nat) (xs : List Int) (x : Int) (hr : RdI w A c xs) (hn : xs.length = n) :
    Calls Tryz.prog 68 #[.slice A n c, .int .i64 x] w fun e w' => e = .returned (.int .i64 (firstIdx (idxB xs x) n)) ∧ w = w' := by
  have hm : n ≤ 9223372036854775807 := by have h1 := hr.le; have h2 := hr.cap; unfold maxLen at h2; omega
  have HR := Lib.hid hr
  have HN := Lib.hid hn
  clear hr hn
  go_enter Tryz.func68, Tryz.ntmps68
  go_wp2
  go_loop [8] (fun i => ∃ k : Nat, k ≤ n ∧ i = .int .i64 k ∧ Hid (∀ j, j < k → idxB xs x j = false)) (fun i => n - (intOf i).toNat)
  case atStart => exact ⟨0, Nat.zero_le _, rfl, fun j hj => absurd hj (by omega)⟩
  case round =>
    obtain ⟨k, hk, rfl, hP⟩ := hrel
    by_cases hlt : k < n
    · have hkx : k < xs.length := by rw [HN.out]; exact hlt
      obtain ⟨b, off, rfl, hb, hc⟩ := HR.out.at_ k hkx
      by_cases h1 : nth xs k = x
      · have hd : (x == nth xs k) = true := by simp [h1]
        have HF := Lib.hid (firstIdx_hit (p := idxB xs x) hlt (decide_eq_true h1) hP.out)
        clear h1
        go_wp2
        go_ret
        exact ⟨by rw [HF.out]; rfl, rfl⟩
      · have hd : (x == nth xs k) = false := by simp; exact fun e => h1 e.symm
        have H1 := Lib.hid (show idxB xs x k = false from decide_eq_false h1)
        clear h1
        go_wp2
        go_round
        case rel =>
          refine ⟨k + 1, by omega, by go_num, fun j hj => ?_⟩
          by_cases e : j = k
          · subst e; exact H1.out
          · exact hP.out j (by omega)
        case measure => simp [intOf]; omega
    · obtain rfl : k = n := by omega
      have HF := Lib.hid (firstIdx_miss (p := idxB xs x) hP.out)
      go_wp2
      go_ret
      exact ⟨by rw [HF.out]; rfl, rfl⟩

theorem contains_c (w : World) (A : Option Addr) (n c : Nat) (xs : List Int) (x : Int) (hr : RdI w A c xs) (hn : xs.length = n) :
    Calls Tryz.prog 35 #[.slice A n c, .int .i64 x] w fun e w' => e = .returned (.bool (hasB xs x)) ∧ w = w' := by
  have HI := Lib.hid (index_c w A n c xs x hr hn)
  have HE := Lib.hid (show decide (0 ≤ firstIdx (idxB xs x) n) = hasB xs x by rw [hasB_idx, hn])
  clear hr hn
  generalize firstIdx (idxB xs x) n = q at *
  by_cases h : 0 ≤ q
  · rw [← HE.out, decide_eq_true h]
    go_enter Tryz.func35, Tryz.ntmps35
    go_wp2_with fail
    refine (HI.out).mono ?_
    rintro e w' ⟨rfl, rfl⟩
    go_wp2
    go_ret
    exact ⟨rfl, rfl⟩
  · rw [← HE.out, decide_eq_false h]
    have hd : decide (0 ≤ q) = false := decide_eq_false h
    clear h
    go_enter Tryz.func35, Tryz.ntmps35
    go_wp2_with fail
    refine (HI.out).mono ?_
    rintro e w' ⟨rfl, rfl⟩
    go_wp2
    go_ret
    exact ⟨rfl, rfl⟩

/-! ### The program's filtered -/

def fltB (xs ys : List Int) (g : Bool → Bool → Bool) (k : Nat) : Bool := g (hasB xs (k : Int)) (hasB ys (k : Int))
/-- The numbers below k that are kept. -/
def fltTo (xs ys : List Int) (g : Bool → Bool → Bool) (k : Nat) : List Int := ((List.range k).filter (fltB xs ys g)).map fun (j : Nat) => (j : Int)
theorem fltTo_succ (xs ys : List Int) (g : Bool → Bool → Bool) (k : Nat) : fltTo xs ys g (k + 1) = fltTo xs ys g k ++ if fltB xs ys g k = true then [(k : Int)] else [] := by
  unfold fltTo
  rw [List.range_succ, List.filter_append, List.map_append]
  by_cases h : fltB xs ys g k = true <;> simp [List.filter_cons, h]
theorem fltTo_len (xs ys : List Int) (g : Bool → Bool → Bool) (k : Nat) : (fltTo xs ys g k).length ≤ k := by
  unfold fltTo
  rw [List.length_map]
  have := List.length_filter_le (fltB xs ys g) (List.range k)
  simpa using this
/-- What filtered returns. -/
def filtL (xs ys : List Int) (g : Bool → Bool → Bool) : List Int := if setB xs 32 = true ∧ setB ys 32 = true then fltTo xs ys g 32 else []
theorem filtL_len (xs ys : List Int) (g : Bool → Bool → Bool) : (filtL xs ys g).length ≤ 32 := by
  unfold filtL
  split
  · exact fltTo_len _ _ _ _
  · simp

set_option maxHeartbeats 2000000 in
theorem filtered_c (w : World) (A B : Option Addr) (n m c d : Nat) (xs ys : List Int) (g : Nat) (lb : Array Value) (f : Bool → Bool → Bool) (eg : ∀ args w, (callFunc g args).run Tryz.prog w = .ok (.enter g args) w)
    (hx : RdI w A c xs) (hn : xs.length = n) (hy : RdI w B d ys) (hm : ys.length = m) (hp : ∀ W p q, Calls Tryz.prog g (#[.bool p, .bool q] ++ lb) W fun e w' => e = .returned (.bool (f p q)) ∧ W = w') :
    Calls Tryz.prog 66 #[.slice A n c, .slice B m d, .func (.func g) #[] lb] w (PostS w (filtL xs ys f)) := by
  have h1 := ValidSet_c w A n c xs 32 hx hn
  have h2 := ValidSet_c w B m d ys 32 hy hm
  have hc1 := fun (W : World) (hb : Below w.heap.size w W) (k : Nat) => contains_c W A n c xs (k : Int) (hx.below hb) hn
  have hc2 := fun (W : World) (hb : Below w.heap.size w W) (k : Nat) => contains_c W B m d ys (k : Int) (hy.below hb) hm
  rcases e1 : setB xs 32 with _ | _
  · rw [e1] at h1
    rw [show filtL xs ys f = [] by simp [filtL, e1]]
    have H1 := Lib.hid h1
    clear h1 h2 hc1 hc2 e1 hx hy hn hm hp
    go_enter Tryz.func66, Tryz.ntmps66
    go_wp2_with fail
    refine (H1.out).mono ?_
    rintro e w' ⟨rfl, rfl⟩
    go_wp2
    go_ret
    exact ⟨⟨none, 0, 0, rfl, rfl, OwnI.nil_ _ _⟩, Below.refl _ _⟩
  · rw [e1] at h1
    rcases e2 : setB ys 32 with _ | _
    · rw [e2] at h2
      rw [show filtL xs ys f = [] by simp [filtL, e2]]
      have H1 := Lib.hid h1
      have H2 := Lib.hid h2
      clear h1 h2 hc1 hc2 e1 e2 hx hy hn hm hp
      go_enter Tryz.func66, Tryz.ntmps66
      go_wp2_with fail
      refine (H1.out).mono ?_
      rintro e w' ⟨rfl, rfl⟩
      go_wp2_with fail
      refine (H2.out).mono ?_
      rintro e w' ⟨rfl, rfl⟩
      go_wp2
      go_ret
      exact ⟨⟨none, 0, 0, rfl, rfl, OwnI.nil_ _ _⟩, Below.refl _ _⟩
    · rw [e2] at h2
      rw [show filtL xs ys f = fltTo xs ys f 32 by simp [filtL, e1, e2]]
      have H1 := Lib.hid h1
      have H2 := Lib.hid h2
      have HC1 := Lib.hid hc1
      have HC2 := Lib.hid hc2
      have HP := Lib.hid hp
      clear h1 h2 hc1 hc2 e1 e2 hx hy hn hm hp
      go_enter Tryz.func66, Tryz.ntmps66
      go_wp2_with fail
      refine (H1.out).mono ?_
      rintro e w' ⟨rfl, rfl⟩
      go_wp2_with fail
      refine (H2.out).mono ?_
      rintro e w' ⟨rfl, rfl⟩
      go_wp2
      go_loopw [7, 8] (fun o q wr => ∃ (k s : Nat) (A : Option Addr) (c : Nat), k ≤ 32 ∧ q = .int .i64 (k : Int) ∧ o = .slice A s c ∧ Hid ((fltTo xs ys f k).length = s) ∧ s ≤ k ∧ OwnI wr w.heap.size A c (fltTo xs ys f k) ∧ Below w.heap.size w wr) (fun _ q _ => 32 - (intOf q).toNat)
      case atStart => exact ⟨0, 0, none, 0, by omega, rfl, rfl, rfl, by omega, OwnI.nil_ _ _, Below.refl _ _⟩
      case round =>
        obtain ⟨k, s, A2, c2, hk, rfl, rfl, hs, hsk, ho, hB⟩ := hrel
        have HO := Lib.hid ho
        have hz := hB.size
        have hB' := hB
        clear ho
        by_cases hlt : k < 32
        · have hS := fltTo_succ xs ys f k
          have ha := HC1.out wr hB k
          have hb := HC2.out wr hB k
          have hf := HP.out wr (hasB xs (k : Int)) (hasB ys (k : Int))
          have hq : fltB xs ys f k = f (hasB xs (k : Int)) (hasB ys (k : Int)) := rfl
          rw [hq] at hS
          generalize hasB xs (k : Int) = p1 at *
          generalize hasB ys (k : Int) = p2 at *
          rcases hv : f p1 p2 with _ | _
          · rw [hv] at hf hS
            simp only [Bool.false_eq_true, if_false, List.append_nil] at hS
            have HS := Lib.hid hS
            have HCa := Lib.hid ha
            have HCb := Lib.hid hb
            have HF := Lib.hid hf
            clear hS ha hb hf hq hv
            go_wp2_with fail
            refine (HCa.out).mono ?_
            rintro e w1 ⟨rfl, rfl⟩
            go_wp2_with fail
            refine (HCb.out).mono ?_
            rintro e w1 ⟨rfl, rfl⟩
            go_wp2_with fail
            refine (HF.out).mono ?_
            rintro e w1 ⟨rfl, rfl⟩
            go_wp2
            go_roundw
            case rel => exact ⟨k + 1, s, A2, c2, by omega, by go_num, rfl, by show _ = _; rw [HS.out]; exact hs.out, by omega, by rw [HS.out]; exact HO.out, hB⟩
            case measure => simp [intOf]; omega
          · rw [hv] at hf hS
            simp only [if_true] at hS
            have HS := Lib.hid hS
            have HCa := Lib.hid ha
            have HCb := Lib.hid hb
            have HF := Lib.hid hf
            have HO1 := Lib.hid (HO.out.alloc (.cells #[.int .i64 (k : Int)] 2))
            clear hS ha hb hf hq hv
            go_wp2_with fail
            refine (HCa.out).mono ?_
            rintro e w1 ⟨rfl, rfl⟩
            go_wp2_with fail
            refine (HCb.out).mono ?_
            rintro e w1 ⟨rfl, rfl⟩
            go_wp2_with fail
            refine (HF.out).mono ?_
            rintro e w1 ⟨rfl, rfl⟩
            go_wp2_with (at_builtin; refine wpI_append rfl _ _ rfl w.heap.size _ _ _ (fltTo xs ys f k) (k : Int) wr.heap.size rfl rfl hs.out HO1.out (World.cell?_alloc_at _ _ _ _ rfl) (by omega) (by simp; omega) ?_; intro A3 c3 w2 ho2 hg2 ha2)
            have hB2 : Below w.heap.size w w2 := (hB.alloc hz _).trans (below_blk HO1.out hg2 (Nat.le_refl _) (by simp; omega))
            have HO2 := Lib.hid ho2
            clear ho2 hg2 ha2
            go_wp2
            go_roundw
            case rel => exact ⟨k + 1, s + 1, A3, c3, by omega, by go_num, rfl, by show _ = _; rw [HS.out, List.length_append, hs.out]; rfl, by omega, by rw [HS.out]; exact HO2.out, hB2⟩
            case measure => simp [intOf]; omega
        · obtain rfl : k = 32 := by omega
          go_wp2
          go_ret
          exact ⟨⟨A2, s, c2, rfl, hs.out, HO.out⟩, hB⟩

/-- The common numbers. -/
def meetL (xs ys : List Int) : List Int := filtL xs ys (fun p q => p && q)
def minusL (xs ys : List Int) : List Int := filtL xs ys (fun p q => p && !q)
def unionL (xs ys : List Int) : List Int := filtL xs ys (fun p q => p || q)
theorem MeetSets1_c (W : World) (p q : Bool) : Calls Tryz.prog 84 #[.bool p, .bool q] W fun e w' => e = .returned (.bool (p && q)) ∧ W = w' := by
  cases p <;> cases q
  all_goals
    go_enter Tryz.func84, Tryz.ntmps84
    go_wp2
    go_ret
    exact ⟨rfl, rfl⟩
theorem MinusSets1_c (W : World) (p q : Bool) : Calls Tryz.prog 69 #[.bool p, .bool q] W fun e w' => e = .returned (.bool (p && !q)) ∧ W = w' := by
  cases p <;> cases q
  all_goals
    go_enter Tryz.func69, Tryz.ntmps69
    go_wp2
    go_ret
    exact ⟨rfl, rfl⟩
theorem UnionSets1_c (W : World) (p q : Bool) : Calls Tryz.prog 67 #[.bool p, .bool q] W fun e w' => e = .returned (.bool (p || q)) ∧ W = w' := by
  cases p <;> cases q
  all_goals
    go_enter Tryz.func67, Tryz.ntmps67
    go_wp2
    go_ret
    exact ⟨rfl, rfl⟩
theorem MeetSets_c (w : World) (A B : Option Addr) (n m c d : Nat) (xs ys : List Int) (hx : RdI w A c xs) (hn : xs.length = n) (hy : RdI w B d ys) (hm : ys.length = m) :
    Calls Tryz.prog 55 #[.slice A n c, .slice B m d] w (PostS w (meetL xs ys)) := by
  have eg := enters_of Tryz.func84 (by kernel_rfl) rfl
  have HC := Lib.hid (filtered_c w A B n m c d xs ys 84 #[] (fun p q => p && q) eg hx hn hy hm (fun W p q => MeetSets1_c W p q))
  rw [show meetL xs ys = filtL xs ys (fun p q => p && q) from rfl]
  clear hx hn hy hm eg
  go_enter Tryz.func55, Tryz.ntmps55
  go_wp2_with fail
  refine (HC.out).mono ?_
  rintro e w' ⟨⟨A2, n2, c2, rfl, hn2, ho⟩, hb⟩
  have HN := Lib.hid hn2
  have HO := Lib.hid ho
  clear hn2 ho
  go_wp2
  go_ret
  exact ⟨⟨A2, n2, c2, rfl, HN.out, HO.out⟩, hb⟩
theorem MinusSets_c (w : World) (A B : Option Addr) (n m c d : Nat) (xs ys : List Int) (hx : RdI w A c xs) (hn : xs.length = n) (hy : RdI w B d ys) (hm : ys.length = m) :
    Calls Tryz.prog 36 #[.slice A n c, .slice B m d] w (PostS w (minusL xs ys)) := by
  have eg := enters_of Tryz.func69 (by kernel_rfl) rfl
  have HC := Lib.hid (filtered_c w A B n m c d xs ys 69 #[] (fun p q => p && !q) eg hx hn hy hm (fun W p q => MinusSets1_c W p q))
  rw [show minusL xs ys = filtL xs ys (fun p q => p && !q) from rfl]
  clear hx hn hy hm eg
  go_enter Tryz.func36, Tryz.ntmps36
  go_wp2_with fail
  refine (HC.out).mono ?_
  rintro e w' ⟨⟨A2, n2, c2, rfl, hn2, ho⟩, hb⟩
  have HN := Lib.hid hn2
  have HO := Lib.hid ho
  clear hn2 ho
  go_wp2
  go_ret
  exact ⟨⟨A2, n2, c2, rfl, HN.out, HO.out⟩, hb⟩
theorem UnionSets_c (w : World) (A B : Option Addr) (n m c d : Nat) (xs ys : List Int) (hx : RdI w A c xs) (hn : xs.length = n) (hy : RdI w B d ys) (hm : ys.length = m) :
    Calls Tryz.prog 34 #[.slice A n c, .slice B m d] w (PostS w (unionL xs ys)) := by
  have eg := enters_of Tryz.func67 (by kernel_rfl) rfl
  have HC := Lib.hid (filtered_c w A B n m c d xs ys 67 #[] (fun p q => p || q) eg hx hn hy hm (fun W p q => UnionSets1_c W p q))
  rw [show unionL xs ys = filtL xs ys (fun p q => p || q) from rfl]
  clear hx hn hy hm eg
  go_enter Tryz.func34, Tryz.ntmps34
  go_wp2_with fail
  refine (HC.out).mono ?_
  rintro e w' ⟨⟨A2, n2, c2, rfl, hn2, ho⟩, hb⟩
  have HN := Lib.hid hn2
  have HO := Lib.hid ho
  clear hn2 ho
  go_wp2
  go_ret
  exact ⟨⟨A2, n2, c2, rfl, HN.out, HO.out⟩, hb⟩
end Go.Proofs.YtmmkmkbpgcbehaaGreat
