/-
  IsArc: contracts of the program's and of the reference's functions. Conditions: those of each theorem.
-/
import Derived.Test.YtnpbkkglnbobaaaRise
namespace Go.Proofs.Ytnpbkkglnbobaaa
open Go.RowKit
set_option linter.unusedVariables false
set_option linter.unusedSimpArgs false

set_option maxHeartbeats 400000 in
theorem specValidSet_c (w : World) (A : Option Addr) (n c : Nat) (xs : List Int) (p : Int) (hr : RdI w A c xs) (hn : xs.length = n) :
    Calls Try.prog 77 #[.slice A n c, .int .i64 p] w (EndQ (.bool (setB xs p)) w) := by
  have hw := in_c p 0 32
  by_cases h : 0 ≤ p ∧ p ≤ 32
  · rw [inB_true.2 h] at hw
    have HW := Lib.hid hw
    have hp1 : 0 ≤ p := h.1
    have hp2 : p ≤ 32 := h.2
    have HV := Lib.hid (rises_c w A n c xs 0 (p - 1) hr hn)
    rw [setB_rise hp1 hp2]
    generalize riseB 0 (p - 1) xs = q at *
    clear hw hr hn h
    go_enter Try.func77, Try.ntmps77
    go_wp2_with fail
    refine (HW.out _).mono ?_
    rintro e w' ⟨rfl, rfl⟩
    go_wp2_with fail
    refine (HV.out).mono ?_
    rintro e w' ⟨rfl, m, rfl⟩
    go_wp2
    go_ret
    exact ⟨rfl, m, rfl⟩
  · rw [inB_false.2 h] at hw
    have HW := Lib.hid hw
    rw [show setB xs p = false from decide_eq_false (fun h' => h h'.2)]
    clear hw hr hn h
    go_enter Try.func77, Try.ntmps77
    go_wp2_with fail
    refine (HW.out _).mono ?_
    rintro e w' ⟨rfl, rfl⟩
    go_wp2
    go_ret
    exact ⟨rfl, 0, rfl⟩

/-- Block k holds three points of the set. -/
def arcP (xss : List (List Int)) (set : List Int) (k : Nat) : Bool := decide (3 ≤ (set.filter (hasB (row xss k))).length)
def arcV (p : Int) (xss : List (List Int)) (set : List Int) : Value :=
  if dsgB p xss = false then .tuple #[.bool false, .int .i64 1]
  else if setB set p = false then .tuple #[.bool false, .int .i64 2]
  else .tuple #[.bool (!anyTo (arcP xss set) xss.length), .int .i64 0]

def arcB (p : Int) (xss : List (List Int)) (set : List Int) : Bool := if dsgB p xss = false then false else if setB set p = false then false else !anyTo (arcP xss set) xss.length
def arcC (p : Int) (xss : List (List Int)) (set : List Int) : Int := if dsgB p xss = false then 1 else if setB set p = false then 2 else 0
theorem arcV_eq (p : Int) (xss : List (List Int)) (set : List Int) : arcV p xss set = .tuple #[.bool (arcB p xss set), .int .i64 (arcC p xss set)] := by
  unfold arcV arcB arcC
  repeat' split
  all_goals rfl

def cntTo (xs set : List Int) (k : Nat) : Nat := ((set.take k).filter (hasB xs)).length
theorem cntTo_succ {xs set : List Int} {k : Nat} (h : k < set.length) : cntTo xs set (k + 1) = cntTo xs set k + if hasB xs (nth set k) = true then 1 else 0 := by
  unfold cntTo
  rw [take_nth h, List.filter_append, List.length_append]
  by_cases e : hasB xs (nth set k) = true <;> simp [List.filter_cons, e]
theorem cntTo_le (xs set : List Int) (k : Nat) : cntTo xs set k ≤ k := by
  unfold cntTo
  have h1 := List.length_filter_le (hasB xs) (set.take k)
  have h2 := List.length_take_le k set
  omega
theorem cntTo_all (xs set : List Int) : cntTo xs set set.length = (set.filter (hasB xs)).length := by
  unfold cntTo; rw [List.take_length]

set_option maxHeartbeats 4000000 in
theorem specIsArc_v (w : World) (p : Int) (hp : -9223372036854775808 ≤ p ∧ p ≤ 9223372036854775807) (A : Option Addr) (n c : Nat) (R : Spine) (xss : List (List Int)) (hr : RdM w A c R xss) (hn : xss.length = n) (hw : WfM xss) (hz : (n : Int) + (tot xss : Nat) ≤ 1048576)
    (B : Option Addr) (m d : Nat) (set : List Int) (hs : RdI w B d set) (hm : set.length = m) (hw2 : WfL set) (hz2 : (m : Int) ≤ 1048576) :
    Calls Try.prog 37 #[.agg #[.int .i64 p, .slice A n c], .slice B m d] w (PostV w (arcV p xss set)) := by
  have hn1 : n ≤ 1048576 := by omega
  have hm1 : m ≤ 1048576 := by omega
  have hB0 : Below w.heap.size w (w.alloc (.cells #[.int .i64 p, .slice A n c] 42)) := below_boxed _ _
  have hX := BoxD.made w p A n c 42
  have hO := l10Ok_c _ w.heap.size A n c R xss p hX (hr.below hB0) hn
  have HB0 := Lib.hid hB0
  have HX := Lib.hid hX
  have HN := Lib.hid hn
  have HM := Lib.hid hm
  rcases hd : dsgB p xss with _ | _
  · rw [hd] at hO
    rw [show arcV p xss set = .tuple #[.bool false, .int .i64 1] by simp [arcV, hd]]
    have HO := Lib.hid hO
    clear hO hB0 hX hd hr hn hs hm
    go_enter Try.func37, Try.ntmps37
    go_wp2_with fail
    refine (HO.out).mono ?_
    rintro e w1 ⟨rfl, m, rfl⟩
    go_wp2
    go_ret2
    exact ⟨rfl, below_drewN HB0.out m⟩
  · rw [hd] at hO
    have HO := Lib.hid hO
    have hV := fun (W : World) (hb : Below w.heap.size w W) => specValidSet_c W B m d set p (hs.below hb) hm
    rcases hsb : setB set p with _ | _
    · rw [hsb] at hV
      have HV := Lib.hid hV
      rw [show arcV p xss set = .tuple #[.bool false, .int .i64 2] by simp [arcV, hd, hsb]]
      clear hO hB0 hX hd hr hn hs hm hV hsb
      go_enter Try.func37, Try.ntmps37
      go_wp2_with fail
      refine (HO.out).mono ?_
      rintro e w1 ⟨rfl, m, rfl⟩
      have hx := (HX.out).drewN m
      have hB1 := below_drewN HB0.out m
      generalize (w.alloc (.cells #[.int .i64 p, .slice A n c] 42)).drewN m = w1 at *
      have hc0 := hx.c0
      go_wp2_with fail
      refine (HV.out _ hB1).mono ?_
      rintro e w' ⟨rfl, m, rfl⟩
      go_wp2
      go_ret2
      exact ⟨rfl, below_drewN hB1 m⟩
    · rw [hsb] at hV
      have HV := Lib.hid hV
      obtain ⟨T, hT⟩ : ∃ T : Value, T = arcV p xss set := ⟨_, rfl⟩
      rw [← hT]
      have HT := Lib.hid (hT.trans (show arcV p xss set = .tuple #[.bool (!anyTo (arcP xss set) n), .int .i64 0] by unfold arcV; rw [if_neg (by simp [hd]), if_neg (by simp [hsb]), hn]))
      have HR := Lib.hid hr
      have HS := Lib.hid hs
      clear hO hB0 hX hd hr hn hs hm hV hsb hT
      go_enter Try.func37, Try.ntmps37
      go_wp2_with fail
      refine (HO.out).mono ?_
      rintro e w1 ⟨rfl, m0, rfl⟩
      have hx := (HX.out).drewN m0
      have hB1 := below_drewN HB0.out m0
      generalize (w.alloc (.cells #[.int .i64 p, .slice A n c] 42)).drewN m0 = w1 at *
      have hc0 := hx.c0
      have hc1 := hx.c1
      go_wp2_with fail
      refine (HV.out _ hB1).mono ?_
      rintro e w' ⟨rfl, m1, rfl⟩
      have hB2 := below_drewN hB1 m1
      have hc2 : (w1.drewN m1).cell? ⟨w.heap.size, 1, none⟩ = some (.slice A n c) := hc1
      clear hc0 hc1 hx hB1
      generalize w1.drewN m1 = w2 at *
      go_wp2
      go_loopw [6, 7, 8] (fun i _ _ wr => ∃ k : Nat, k ≤ n ∧ i = .int .i64 k ∧ Hid (∀ j, j < k → arcP xss set j = false) ∧ Qt w2 wr) (fun i _ _ _ => n - (intOf i).toNat)
      case atStart => exact ⟨0, Nat.zero_le _, rfl, fun j hj => absurd hj (by omega), Qt.refl _⟩
      case round =>
        obtain ⟨k, hk, rfl, hP, ⟨q, rfl⟩⟩ := hrel
        by_cases hlt : k < n
        · obtain ⟨wo, hwo⟩ : ∃ wo, wo = w2.drewN q := ⟨_, rfl⟩
          have hcw : wo.cell? ⟨w.heap.size, 1, none⟩ = some (.slice A n c) := by rw [hwo]; exact hc2
          have HBo := Lib.hid (show Below w.heap.size w wo by rw [hwo]; exact below_drewN hB2 q)
          have HQo := Lib.hid (show Qt w2 wo from ⟨q, hwo⟩)
          rw [← hwo]
          clear hwo
          go_wp2
          go_loopw [7, 8] (fun s i wr => ∃ j : Nat, j ≤ m ∧ i = .int .i64 j ∧ s = .int .i64 ((cntTo (row xss k) set j : Nat) : Int) ∧ Qt wo wr) (fun _ i _ => m - (intOf i).toNat)
          case atStart => exact ⟨0, Nat.zero_le _, rfl, by simp [cntTo], Qt.refl _⟩
          case round =>
            obtain ⟨j, hj, rfl, rfl, ⟨q2, rfl⟩⟩ := hrel
            have hle := cntTo_le (row xss k) set j
            by_cases hlt2 : j < m
            · have hkx : k < xss.length := by rw [HN.out]; exact hlt
              have hjx : j < set.length := by rw [HM.out]; exact hlt2
              have hr1 := (HR.out).below HBo.out
              have hs1 := (HS.out).below HBo.out
              obtain ⟨b1, off1, rfl, hb1, hd1⟩ := hr1.at_ k hkx
              obtain ⟨b2, off2, rfl, hb2, hd2⟩ := hs1.at_ j hjx
              have hcall := fun e => has_c (wo.drewN e) (R k).1 (row xss k).length (R k).2 (row xss k) (nth set j) ((hr1.rows k hkx).drewN e) rfl
              have hS := cntTo_succ (xs := row xss k) hjx
              have hi0 : (0 : Int) ≤ (k : Int) := by omega
              have hi1 : (k : Int) < (n : Int) := by omega
              have hj0 : (0 : Int) ≤ (j : Int) := by omega
              have hj1 : (j : Int) < (m : Int) := by omega
              rcases hv : hasB (row xss k) (nth set j) with _ | _
              · rw [hv] at hcall hS
                simp only [Bool.false_eq_true, if_false, Nat.add_zero] at hS
                have HC := Lib.hid hcall
                have HS2 := Lib.hid hS
                clear hr1 hs1 hcall hS hv
                go_wp2
                go_quiet ((go_at_call 71; exact quiet_drN (HC.out _)))
                go_wp2
                go_roundw
                case rel => exact ⟨j + 1, by omega, by go_num, by rw [HS2.out], ⟨_, rfl⟩⟩
                case measure => simp [intOf]; omega
              · rw [hv] at hcall hS
                simp only [if_true] at hS
                have HC := Lib.hid hcall
                have HS2 := Lib.hid hS
                clear hr1 hs1 hcall hS hv
                go_wp2
                go_quiet ((go_at_call 71; exact quiet_drN (HC.out _)))
                go_wp2
                go_roundw
                case rel => exact ⟨j + 1, by omega, by go_num, by rw [HS2.out]; go_num, ⟨_, rfl⟩⟩
                case measure => simp [intOf]; omega
            · obtain rfl : j = m := by omega
              have HA := Lib.hid (show arcP xss set k = decide (3 ≤ cntTo (row xss k) set j) by unfold arcP; rw [← cntTo_all, HM.out])
              by_cases h3 : 3 ≤ cntTo (row xss k) set j
              · have HF := Lib.hid (show T = .tuple #[.bool false, .int .i64 0] by
                  rw [HT.out, show anyTo (arcP xss set) n = true from anyTo_true.2 ⟨k, hlt, by rw [HA.out]; exact decide_eq_true h3⟩]; rfl)
                generalize cntTo (row xss k) set j = z at *
                have h3' : (2 : Int) < (z : Int) := by omega
                go_wp2
                go_ret2
                exact ⟨by rw [HF.out]; rfl, (below_drewN HBo.out _)⟩
              · have HF := Lib.hid (show arcP xss set k = false by rw [HA.out]; exact decide_eq_false h3)
                clear HA
                generalize cntTo (row xss k) set j = z at *
                have h3' : (z : Int) ≤ 2 := by omega
                clear h3
                go_wp2
                go_roundw
                case rel =>
                  refine ⟨k + 1, by omega, by go_num, fun i hi => ?_, HQo.out.trans ⟨_, rfl⟩⟩
                  by_cases e : i = k
                  · subst e; exact HF.out
                  · exact hP.out i (by omega)
                case measure => simp [intOf]; omega
        · obtain rfl : k = n := by omega
          have HF := Lib.hid (show T = .tuple #[.bool true, .int .i64 0] by
            rw [HT.out, show anyTo (arcP xss set) k = false from anyTo_false.2 hP.out]; rfl)
          go_wp2
          go_ret2
          exact ⟨by rw [HF.out]; rfl, below_drewN hB2 q⟩

/-- The literal of IsArc. -/
theorem arcLit_c (W : World) (B : Nat) (A D : Option Addr) (n c m d : Nat) (xs set : List Int) (hr : RdI W A c xs) (hn : xs.length = n) (hs : RdI W D d set) (hm : set.length = m) (hx : setB xs 32 = true) (hy : setB set 32 = true) (hcell : W.cell? ⟨B, 0, none⟩ = some (.slice D m d)) :
    Calls Try.prog 80 #[.slice A n c, .pointer (some ⟨B, 0, none⟩)] W (PostV W (.bool (decide (3 ≤ (set.filter (hasB xs)).length)))) := by
  have HC := Lib.hid (MeetSets_c W A D n m c d xs set hr hn hs hm)
  have hlen : (meetL xs set).length = (set.filter (hasB xs)).length := by rw [meetL_eq hx hy]
  have hsm : (meetL xs set).length ≤ 32 := filtL_len _ _ _
  rw [← hlen]
  clear hr hn hs hm hx hy hlen
  generalize meetL xs set = o at *
  by_cases h : 3 ≤ o.length
  · rw [decide_eq_true h]
    have H := Lib.hid h
    have HS := Lib.hid hsm
    clear h hsm
    go_enter Try.func80, Try.ntmps80
    go_wp2_with fail
    refine (HC.out).mono ?_
    rintro e w1 ⟨⟨A2, n2, c2, rfl, hn2, ho⟩, hb⟩
    have h3 : (3 : Int) ≤ (n2 : Int) := by have := H.out; omega
    have h4 : (n2 : Int) ≤ 32 := by have := HS.out; omega
    clear hn2 ho
    go_wp2
    go_ret
    exact ⟨rfl, hb⟩
  · rw [decide_eq_false h]
    have H := Lib.hid h
    have HS := Lib.hid hsm
    clear h hsm
    go_enter Try.func80, Try.ntmps80
    go_wp2_with fail
    refine (HC.out).mono ?_
    rintro e w1 ⟨⟨A2, n2, c2, rfl, hn2, ho⟩, hb⟩
    have h3 : decide ((3 : Int) ≤ (n2 : Int)) = false := by have := H.out; simp; omega
    clear hn2 ho
    go_wp2
    go_ret
    exact ⟨rfl, hb⟩

set_option maxHeartbeats 2000000 in
theorem implIsArc_v (w : World) (p : Int) (hp : -9223372036854775808 ≤ p ∧ p ≤ 9223372036854775807) (A : Option Addr) (n c : Nat) (R : Spine) (xss : List (List Int)) (hr : RdM w A c R xss) (hn : xss.length = n) (hw : WfM xss) (hz : (n : Int) + (tot xss : Nat) ≤ 1048576)
    (B : Option Addr) (m d : Nat) (set : List Int) (hs : RdI w B d set) (hm : set.length = m) (hw2 : WfL set) (hz2 : (m : Int) ≤ 1048576) :
    Calls Try.prog 38 #[.agg #[.int .i64 p, .slice A n c], .slice B m d] w (PostV w (arcV p xss set)) := by
  have hn1 : n ≤ 1048576 := by omega
  have hm1 : m ≤ 1048576 := by omega
  obtain ⟨W, hW⟩ : ∃ W, W = (w.alloc (.cells #[.int .i64 p, .slice A n c] 42)).alloc (.cells #[.slice B m d] 29) := ⟨_, rfl⟩
  have hB0 : Below w.heap.size w W := by rw [hW]; exact (below_boxed _ _).alloc (by simp) _
  have hX : BoxD W w.heap.size p A n c := by rw [hW]; exact ⟨by simp [go_sem], by simp [go_sem]⟩
  have hxa : W.cell? ⟨w.heap.size + 1, 0, none⟩ = some (.slice B m d) := by rw [hW]; simp [go_sem]
  have hV := ValidDesign_c W p A n c R xss (hr.below hB0) hn
  have hmf : ∀ (fn : Fn) (first cap : Array Value) (w : World), (Instr.makeFunc fn first cap).run Try.prog w = .ok (.func fn first cap) w := fun _ _ _ _ => rfl
  have HB0 := Lib.hid hB0
  have HW := Lib.hid hW
  rcases hd : dsgB p xss with _ | _
  · rw [hd] at hV
    rw [show arcV p xss set = .tuple #[.bool false, .int .i64 1] by simp [arcV, hd]]
    rw [hW] at hV
    have HV := Lib.hid hV
    clear hV hB0 hX hxa hW hd hr hn hs hm
    go_enter Try.func38, Try.ntmps38
    go_wp2_with fail
    refine (HV.out).mono ?_
    rintro e w1 ⟨rfl, hb1⟩
    rw [← HW.out] at hb1
    have hB := HB0.out.trans (hb1.mono HB0.out.size)
    go_wp2
    go_ret2
    exact ⟨rfl, hB⟩
  · rw [hd] at hV
    have HA := Lib.hid (cell_size hxa)
    have HX := Lib.hid hX
    have HXa := Lib.hid hxa
    have HR := Lib.hid (hr.below hB0)
    have HS := Lib.hid (hs.below hB0)
    have HS' := Lib.hid (fun (w1 : World) (hb : Below W.heap.size W w1) => ValidSet_c w1 B m d set p (HS.out.below hb) hm)
    rcases hsb : setB set p with _ | _
    · rw [hsb] at HS'
      rw [show arcV p xss set = .tuple #[.bool false, .int .i64 2] by simp [arcV, hd, hsb]]
      have HV := Lib.hid hV
      rw [hW] at HV
      clear hV hB0 hX hxa hW hd hr hn hs hm hsb
      go_enter Try.func38, Try.ntmps38
      go_wp2_with fail
      refine (HV.out).mono ?_
      rintro e w1 ⟨rfl, hb1⟩
      rw [← HW.out] at hb1
      have hB := HB0.out.trans (hb1.mono HB0.out.size)
      have hx := HX.out.below hb1
      have hc0 := hx.c0
      have hca := (hb1.cell (p := ⟨w.heap.size + 1, 0, none⟩) HA.out).trans HXa.out
      have HV2 := Lib.hid (HS'.out w1 hb1)
      clear hb1 hx
      go_wp2_with fail
      refine (HV2.out).mono ?_
      rintro e w' ⟨rfl, rfl⟩
      go_wp2
      go_ret2
      exact ⟨rfl, hB⟩
    · rw [hsb] at HS'
      have hD := dsgB_true.1 hd
      have hs32 : setB set 32 = true := setB_more hsb hD.1.2 (by omega)
      have hrows : ∀ k, k < n → setB (row xss k) 32 = true := fun k hk => setB_more (blockB_set (hD.2.2 k (by omega)).1) hD.1.2 (by omega)
      have HI := Lib.hid (fun (w1 : World) (hb1 : Below W.heap.size W w1) => containsFuncM w1 A n c R xss 80 #[.pointer (some ⟨w.heap.size + 1, 0, none⟩)] (arcP xss set) (enters_of Try.func80 (by kernel_rfl) rfl) (HR.out.below hb1) hn (fun W2 k hk hb2 =>
        arcLit_c W2 _ _ B _ _ m d (row xss k) set (((HR.out.below hb1).rows k (by omega)).keep hb2.size fun _ hp => hb2.cell hp) rfl ((HS.out.below hb1).below hb2) hm (hrows k hk) hs32
          ((hb2.cell (p := ⟨w.heap.size + 1, 0, none⟩) (Nat.lt_of_lt_of_le HA.out hb1.size)).trans ((hb1.cell (p := ⟨w.heap.size + 1, 0, none⟩) HA.out).trans HXa.out))))
      rw [show arcV p xss set = .tuple #[.bool (!anyTo (arcP xss set) n), .int .i64 0] by unfold arcV; rw [if_neg (by simp [hd]), if_neg (by simp [hsb]), hn]]
      generalize anyTo (arcP xss set) n = q at *
      have HV := Lib.hid hV
      rw [hW] at HV
      clear hV hB0 hX hxa hW hd hr hn hs hm hsb hD hs32 hrows
      go_enter Try.func38, Try.ntmps38
      go_wp2_with fail
      refine (HV.out).mono ?_
      rintro e w1 ⟨rfl, hb1⟩
      rw [← HW.out] at hb1
      have hB := HB0.out.trans (hb1.mono HB0.out.size)
      have hx := HX.out.below hb1
      have hc0 := hx.c0
      have hc1 := hx.c1
      have hca := (hb1.cell (p := ⟨w.heap.size + 1, 0, none⟩) HA.out).trans HXa.out
      have HV2 := Lib.hid (HS'.out w1 hb1)
      have HI1 := Lib.hid (HI.out w1 hb1)
      clear hb1 hx
      go_wp2_with fail
      refine (HV2.out).mono ?_
      rintro e w' ⟨rfl, rfl⟩
      go_wp2_with fail
      refine (HI1.out).mono ?_
      rintro e w2 ⟨rfl, hb2⟩
      have hB2 := hB.trans (hb2.mono hB.size)
      go_wp2
      go_ret2
      exact ⟨rfl, hB2⟩

theorem specIsArc_c (w : World) (p : Int) (hp : -9223372036854775808 ≤ p ∧ p ≤ 9223372036854775807) (A : Option Addr) (n c : Nat) (R : Spine) (xss : List (List Int)) (hr : RdM w A c R xss) (hn : xss.length = n) (hw : WfM xss) (hz : (n : Int) + (tot xss : Nat) ≤ 1048576)
    (B : Option Addr) (m d : Nat) (set : List Int) (hs : RdI w B d set) (hm : set.length = m) (hw2 : WfL set) (hz2 : (m : Int) ≤ 1048576) :
    Calls Try.prog 37 #[.agg #[.int .i64 p, .slice A n c], .slice B m d] w (PostV w (.tuple #[.bool (arcB p xss set), .int .i64 (arcC p xss set)])) :=
  arcV_eq p xss set ▸ specIsArc_v w p hp A n c R xss hr hn hw hz B m d set hs hm hw2 hz2
theorem implIsArc_c (w : World) (p : Int) (hp : -9223372036854775808 ≤ p ∧ p ≤ 9223372036854775807) (A : Option Addr) (n c : Nat) (R : Spine) (xss : List (List Int)) (hr : RdM w A c R xss) (hn : xss.length = n) (hw : WfM xss) (hz : (n : Int) + (tot xss : Nat) ≤ 1048576)
    (B : Option Addr) (m d : Nat) (set : List Int) (hs : RdI w B d set) (hm : set.length = m) (hw2 : WfL set) (hz2 : (m : Int) ≤ 1048576) :
    Calls Try.prog 38 #[.agg #[.int .i64 p, .slice A n c], .slice B m d] w (PostV w (.tuple #[.bool (arcB p xss set), .int .i64 (arcC p xss set)])) :=
  arcV_eq p xss set ▸ implIsArc_v w p hp A n c R xss hr hn hw hz B m d set hs hm hw2 hz2
end Go.Proofs.Ytnpbkkglnbobaaa
