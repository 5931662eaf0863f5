/-
  Quadrilaterals of a triple system as a plain law: the blocks that two points lie in, the pairs of blocks, the four blocks of a quadrilateral. No program in sight. Conditions: those of each theorem.
-/
import Derived.Test.YtmmkmkbpgcbehaaGreatThirdP
import Derived.Test.YtmmkmkbpgcbehaaGreatTrpA
import Derived.Test.YtmmkmkbpgcbehaaGreatSmL
namespace Go.Proofs.YtmmkmkbpgcbehaaGreat
set_option linter.unusedVariables false
set_option linter.unusedSimpArgs false

theorem setQ {s : List Int} {p : Int} (h : setB s p = true) : setB s 32 = true := setB_more h (setB_iff.1 h).2.2.2 (by omega)
theorem mem_meetQ {xs ys : List Int} {z : Int} (hx : setB xs 32 = true) (hy : setB ys 32 = true) : z ∈ meetL xs ys ↔ z ∈ xs ∧ z ∈ ys := by
  rw [meetL_eq' hx hy, List.mem_filter, hasB_true]
theorem mem_minusQ {xs ys : List Int} {z : Int} (hx : setB xs 32 = true) (hy : setB ys 32 = true) : z ∈ minusL xs ys ↔ z ∈ xs ∧ z ∉ ys := by
  rw [minusL_eq hx hy, List.mem_filter, Bool.not_eq_true', hasB_false]
theorem minusQ_set {xs ys : List Int} {p : Int} (hx : setB xs p = true) (hy : setB ys 32 = true) : setB (minusL xs ys) p = true := by
  have h := setB_iff.1 hx
  refine setB_iff.2 ⟨fltTo_riseQ, fun z hz => h.2.1 z ((mem_minusQ (setQ hx) hy).1 hz).1, h.2.2⟩
where
  fltTo_riseQ {xs ys : List Int} : (minusL xs ys).Pairwise (· < ·) := by
    unfold minusL filtL
    split
    · exact fltTo_rise _ _ _ _
    · exact List.Pairwise.nil
theorem meetQ_set {xs ys : List Int} {p : Int} (hx : setB xs p = true) (hy : setB ys 32 = true) : setB (meetL xs ys) p = true := by
  have h := setB_iff.1 hx
  refine setB_iff.2 ⟨?_, fun z hz => h.2.1 z ((mem_meetQ (setQ hx) hy).1 hz).1, h.2.2⟩
  unfold meetL filtL
  split
  · exact fltTo_rise _ _ _ _
  · exact List.Pairwise.nil
theorem meetQ_comm {xs ys : List Int} (hx : setB xs 32 = true) (hy : setB ys 32 = true) : meetL xs ys = meetL ys xs :=
  rise_ext (setB_iff.1 (meetQ_set hx hy)).1 (setB_iff.1 (meetQ_set hy hx)).1 fun z => by rw [mem_meetQ hx hy, mem_meetQ hy hx]; exact And.comm
theorem sortQ_perm {xs ys : List Int} (h : xs.Perm ys) : sortL xs = sortL ys :=
  List.Perm.eq_of_pairwise (le := fun (a b : Int) => a ≤ b) (fun _ _ _ _ h1 h2 => Int.le_antisymm h1 h2) (sortL_le xs) (sortL_le ys) (((List.mergeSort_perm xs _).trans h).trans (List.mergeSort_perm ys _).symm)

/-- The block of two points, by its number. -/
def ikF (xss : List (List Int)) (x y : Nat) : Nat := (firstIdx (lineP xss (x : Int) (y : Int)) xss.length).toNat
theorem lineQ {xss : List (List Int)} {x y : Nat} {k : Nat} : lineP xss (x : Int) (y : Int) k = true ↔ (x : Int) ∈ row xss k ∧ (y : Int) ∈ row xss k := by
  unfold lineP
  rw [Bool.and_eq_true, hasB_true, hasB_true]
theorem TripSys.same {P : Nat} {xss : List (List Int)} (h : TripSys P xss) {x y i j : Nat} (hne : x ≠ y) (hx : x < P) (hy : y < P) (hi : i < xss.length) (hj : j < xss.length)
    (h1 : (x : Int) ∈ row xss i) (h2 : (y : Int) ∈ row xss i) (h3 : (x : Int) ∈ row xss j) (h4 : (y : Int) ∈ row xss j) : i = j :=
  h.uniq hne hx hy hi hj (lineQ.2 ⟨h1, h2⟩) (lineQ.2 ⟨h3, h4⟩)
/-- Three points of a block, two of them given. -/
theorem TripSys.look {P : Nat} {xss : List (List Int)} (h : TripSys P xss) {x y : Nat} (hne : x ≠ y) (hx : x < P) (hy : y < P) :
    ∃ z : Nat, z < P ∧ z ≠ x ∧ z ≠ y ∧ thF xss xss.length x y = (z : Int) ∧ ikF xss x y < xss.length ∧ firstIdx (lineP xss (x : Int) (y : Int)) xss.length = ((ikF xss x y : Nat) : Int) ∧
      ∀ v : Int, v ∈ row xss (ikF xss x y) ↔ v = (x : Int) ∨ v = (y : Int) ∨ v = (z : Int) := by
  obtain ⟨k, hk, e1, e2⟩ := thF_look h hne hx hy
  have hik : ikF xss x y = k := by unfold ikF; rw [e1]; simp
  obtain ⟨k', hk', e1', hl, _⟩ := firstIdx_nat (show 0 ≤ firstIdx (lineP xss (x : Int) (y : Int)) xss.length by omega)
  obtain rfl : k = k' := by omega
  rw [hik]
  have hs := h.rows k hk
  have h3 := h.three k hk
  have hl2 := lineQ.1 hl
  obtain ⟨a, ha, ea⟩ := (mem_sN hs).1 hl2.1
  obtain ⟨_, _, g1, g2, g3, h5, h6⟩ := three_sN hs h3 (i := a) (by omega)
  have hb1 := (three_sN hs h3 (i := (a + 1) % 3) (by omega)).1
  have hb2 := (three_sN hs h3 (i := (a + 2) % 3) (by omega)).1
  have m0 := sN_mem hs (j := a) ha
  have m1 := sN_mem hs (j := (a + 1) % 3) (by omega)
  have m2 := sN_mem hs (j := (a + 2) % 3) (by omega)
  have hv : ∀ v : Int, v ∈ row xss k → v = (sN (row xss k) a : Int) ∨ v = (sN (row xss k) ((a + 1) % 3) : Int) ∨ v = (sN (row xss k) ((a + 2) % 3) : Int) := fun v hv => by
    have hb := (setB_iff.1 hs).2.1 v hv
    have := h5 v.toNat (by rw [show ((v.toNat : Nat) : Int) = v by omega]; exact hv)
    omega
  rcases h5 y hl2.2 with q | q | q
  · omega
  · refine ⟨sN (row xss k) ((a + 2) % 3), hb2, by omega, by omega, by rw [e2, h6]; omega, hk, e1, fun v => ⟨fun hm => ?_, ?_⟩⟩
    · rw [ea, q]; exact hv v hm
    · rintro (rfl | rfl | rfl)
      · exact hl2.1
      · exact hl2.2
      · exact m2
  · refine ⟨sN (row xss k) ((a + 1) % 3), hb1, by omega, by omega, by rw [e2, h6]; omega, hk, e1, fun v => ⟨fun hm => ?_, ?_⟩⟩
    · rw [ea, q]
      rcases hv v hm with e | e | e
      · exact .inl e
      · exact .inr (.inr e)
      · exact .inr (.inl e)
    · rintro (rfl | rfl | rfl)
      · exact hl2.1
      · exact hl2.2
      · exact m1
theorem TripSys.ik_comm {P : Nat} {xss : List (List Int)} (h : TripSys P xss) {x y : Nat} (hne : x ≠ y) (hx : x < P) (hy : y < P) : ikF xss y x = ikF xss x y := by
  obtain ⟨_, _, _, _, _, k1, _, m1⟩ := h.look hne hx hy
  obtain ⟨_, _, _, _, _, k2, _, m2⟩ := h.look (fun e => hne e.symm) hy hx
  exact h.same hne hx hy k2 k1 ((m2 _).2 (.inr (.inl rfl))) ((m2 _).2 (.inl rfl)) ((m1 _).2 (.inl rfl)) ((m1 _).2 (.inr (.inl rfl)))
theorem TripSys.th_comm {P : Nat} {xss : List (List Int)} (h : TripSys P xss) {x y : Nat} (hne : x ≠ y) (hx : x < P) (hy : y < P) : thF xss xss.length y x = thF xss xss.length x y := by
  obtain ⟨z, _, n1, n2, e1, k1, _, m1⟩ := h.look hne hx hy
  obtain ⟨z', _, n3, n4, e2, k2, _, m2⟩ := h.look (fun e => hne e.symm) hy hx
  have := (m2 (z : Int)).1 (by rw [h.ik_comm hne hx hy]; exact (m1 _).2 (.inr (.inr rfl)))
  omega
/-- The block of two points is the triple of them and their third point; no other block is. -/
theorem TripSys.ik_row {P : Nat} {xss : List (List Int)} (h : TripSys P xss) {x y : Nat} (hne : x ≠ y) (hx : x < P) (hy : y < P) {k : Nat} (hk : k < xss.length) :
    row xss k = trp (x : Int) (y : Int) (thF xss xss.length x y) ↔ k = ikF xss x y := by
  obtain ⟨z, _, n1, n2, e1, k1, _, m1⟩ := h.look hne hx hy
  constructor
  · intro e
    refine h.same hne hx hy hk k1 ?_ ?_ ((m1 _).2 (.inl rfl)) ((m1 _).2 (.inr (.inl rfl)))
    · rw [e, trp_mem]; exact .inl rfl
    · rw [e, trp_mem]; exact .inr (.inl rfl)
  · rintro rfl
    refine rise_ext (setB_iff.1 (h.rows _ k1)).1 ?_ fun v => ?_
    · refine sortL_rise ?_
      rw [e1]
      simp; omega
    · rw [m1, trp_mem, e1]

/-- What two blocks have apart from what they share. -/
def qX (xss : List (List Int)) (a b : Nat) : List Int := minusL (row xss a) (meetL (row xss a) (row xss b))
def qCond (xss : List (List Int)) (a b t : Nat) : Bool := decide (thF xss xss.length (sN (qX xss a b) 0) (sN (qX xss b a) t) = thF xss xss.length (sN (qX xss a b) 1) (sN (qX xss b a) (1 - t)))
def qOne (xss : List (List Int)) (a b t : Nat) : Nat := ikF xss (sN (qX xss a b) 0) (sN (qX xss b a) t)
def qTwo (xss : List (List Int)) (a b t : Nat) : Nat := ikF xss (sN (qX xss a b) 1) (sN (qX xss b a) (1 - t))
def qd (xss : List (List Int)) (a b t : Nat) : List Int := sortL [(a : Int), (b : Int), (qOne xss a b t : Int), (qTwo xss a b t : Int)]
def qMeet (xss : List (List Int)) (a b : Nat) : Prop := (meetL (row xss a) (row xss b)).length = 1
instance (xss : List (List Int)) (a b : Nat) : Decidable (qMeet xss a b) := by unfold qMeet; infer_instance
/-- The quadrilaterals of two blocks, of the first k ways. -/
def qTo (xss : List (List Int)) (a b k : Nat) : List (List Int) := ((List.range k).filter fun t => qCond xss a b t).map (qd xss a b)
def qPair (xss : List (List Int)) (a b : Nat) : List (List Int) := if qMeet xss a b then qTo xss a b 2 else []
theorem qTo_hit {xss : List (List Int)} {a b k : Nat} (h : qCond xss a b k = true) : qTo xss a b (k + 1) = qTo xss a b k ++ [qd xss a b k] := by simp [qTo, List.range_succ, h]
theorem qTo_miss {xss : List (List Int)} {a b k : Nat} (h : qCond xss a b k = false) : qTo xss a b (k + 1) = qTo xss a b k := by simp [qTo, List.range_succ, h]
theorem qTo_len (xss : List (List Int)) (a b k : Nat) : (qTo xss a b k).length ≤ k := by
  unfold qTo
  rw [List.length_map]
  exact Nat.le_trans (List.length_filter_le _ _) (by simp)
theorem qPair_len (xss : List (List Int)) (a b : Nat) : (qPair xss a b).length ≤ 2 := by
  unfold qPair
  split
  · exact qTo_len _ _ _ _
  · simp

theorem len_three {l : List Int} (h : l.length = 3) : ∃ a b c, l = [a, b, c] := by
  match l, h with
  | [a, b, c], _ => exact ⟨a, b, c, rfl⟩
/-- Two blocks that share one point: their points. -/
theorem TripSys.shape {P : Nat} {xss : List (List Int)} (h : TripSys P xss) {a b : Nat} (hab : a ≠ b) (ha : a < xss.length) (hb : b < xss.length) (hm : qMeet xss a b) :
    ∃ c x0 x1 y0 y1 : Nat, (c < P ∧ x0 < P ∧ x1 < P ∧ y0 < P ∧ y1 < P) ∧ meetL (row xss a) (row xss b) = [(c : Int)] ∧ meetL (row xss b) (row xss a) = [(c : Int)] ∧ qX xss a b = [(x0 : Int), (x1 : Int)] ∧ qX xss b a = [(y0 : Int), (y1 : Int)] ∧
      (∀ v : Int, v ∈ row xss a ↔ v = (c : Int) ∨ v = (x0 : Int) ∨ v = (x1 : Int)) ∧ (∀ v : Int, v ∈ row xss b ↔ v = (c : Int) ∨ v = (y0 : Int) ∨ v = (y1 : Int)) ∧
      (c ≠ x0 ∧ c ≠ x1 ∧ c ≠ y0 ∧ c ≠ y1 ∧ x0 ≠ x1 ∧ y0 ≠ y1 ∧ x0 ≠ y0 ∧ x0 ≠ y1 ∧ x1 ≠ y0 ∧ x1 ≠ y1) := by
  have sa := h.rows a ha
  have sb := h.rows b hb
  have qa := setQ sa
  have qb := setQ sb
  have hcm := meetQ_comm qa qb
  obtain ⟨z, hz⟩ := List.length_eq_one_iff.1 hm
  have hzm := (mem_meetQ (z := z) qa qb).1 (by rw [hz]; simp)
  have hzb := (setB_iff.1 sa).2.1 z hzm.1
  obtain ⟨c, rfl⟩ : ∃ c : Nat, z = (c : Int) := ⟨z.toNat, by omega⟩
  have part : ∀ {i j : Nat}, i < xss.length → setB (row xss i) (P : Int) = true → (c : Int) ∈ row xss i → meetL (row xss i) (row xss j) = [(c : Int)] → ∃ x0 x1 : Nat, x0 < P ∧ x1 < P ∧ qX xss i j = [(x0 : Int), (x1 : Int)] ∧ (∀ v : Int, v ∈ row xss i ↔ v = (c : Int) ∨ v = (x0 : Int) ∨ v = (x1 : Int)) ∧ c ≠ x0 ∧ c ≠ x1 ∧ x0 ≠ x1 := by
    intro i j hi hs hci hmt
    have h3 := h.three i hi
    obtain ⟨u0, u1, u2, hu⟩ : ∃ u0 u1 u2, row xss i = [u0, u1, u2] := len_three h3
    have hb := setB_iff.1 hs
    rw [hu] at hb hci
    have hp := hb.1
    simp at hp
    have b0 := hb.2.1 u0 (by simp)
    have b1 := hb.2.1 u1 (by simp)
    have b2 := hb.2.1 u2 (by simp)
    have hsc : setB [(c : Int)] 32 = true := setB_iff.2 ⟨by simp, fun z hz => by simp at hz; simp at hci; omega, by omega⟩
    have hqx : qX xss i j = [u0, u1, u2].filter (fun z => !hasB [(c : Int)] z) := by
      unfold qX
      rw [hmt, minusL_eq (setQ hs) hsc, hu]
    simp at hci
    rw [hu]
    rcases hci with e | e | e
    · refine ⟨u1.toNat, u2.toNat, by omega, by omega, ?_, fun v => ?_, by omega, by omega, by omega⟩
      · rw [hqx]; simp [hasB, List.filter_cons, show u0 = (c : Int) from e.symm, show u1 ≠ (c : Int) by omega, show u2 ≠ (c : Int) by omega]; omega
      · simp; omega
    · refine ⟨u0.toNat, u2.toNat, by omega, by omega, ?_, fun v => ?_, by omega, by omega, by omega⟩
      · rw [hqx]; simp [hasB, List.filter_cons, show u1 = (c : Int) from e.symm, show u0 ≠ (c : Int) by omega, show u2 ≠ (c : Int) by omega]; omega
      · simp; omega
    · refine ⟨u0.toNat, u1.toNat, by omega, by omega, ?_, fun v => ?_, by omega, by omega, by omega⟩
      · rw [hqx]; simp [hasB, List.filter_cons, show u2 = (c : Int) from e.symm, show u0 ≠ (c : Int) by omega, show u1 ≠ (c : Int) by omega]; omega
      · simp; omega
  obtain ⟨x0, x1, p1, p2, ex, mx, n1, n2, n3⟩ := part ha sa hzm.1 hz
  obtain ⟨y0, y1, p3, p4, ey, my, n4, n5, n6⟩ := part hb sb hzm.2 (hcm ▸ hz)
  have hno : ∀ v : Int, v ∈ row xss a → v ∈ row xss b → v = (c : Int) := fun v h1 h2 => by
    have := (mem_meetQ (z := v) qa qb).2 ⟨h1, h2⟩
    rw [hz] at this
    simpa using this
  have g : ∀ x y : Nat, (x : Int) ∈ row xss a → (y : Int) ∈ row xss b → c ≠ x → x ≠ y := fun x y h1 h2 h3 e => by
    subst e
    have := hno _ h1 h2
    omega
  have a0 := (mx (x0 : Int)).2 (.inr (.inl rfl))
  have a1 := (mx (x1 : Int)).2 (.inr (.inr rfl))
  have c0 := (my (y0 : Int)).2 (.inr (.inl rfl))
  have c1 := (my (y1 : Int)).2 (.inr (.inr rfl))
  exact ⟨c, x0, x1, y0, y1, ⟨by omega, p1, p2, p3, p4⟩, hz, hcm ▸ hz, ex, ey, mx, my, n1, n2, n4, n5, n3, n6, g _ _ a0 c0 n1, g _ _ a0 c1 n1, g _ _ a1 c0 n2, g _ _ a1 c1 n2⟩
theorem qMeet_comm {P : Nat} {xss : List (List Int)} (h : TripSys P xss) {a b : Nat} (ha : a < xss.length) (hb : b < xss.length) : qMeet xss a b ↔ qMeet xss b a := by
  unfold qMeet
  rw [meetQ_comm (setQ (h.rows a ha)) (setQ (h.rows b hb))]
theorem sN_two (x y : Nat) : sN [(x : Int), (y : Int)] 0 = x ∧ sN [(x : Int), (y : Int)] 1 = y := ⟨rfl, rfl⟩
/-- The way t of two blocks: their points, the points of the two other blocks. -/
theorem TripSys.way {P : Nat} {xss : List (List Int)} (h : TripSys P xss) {a b : Nat} (hab : a ≠ b) (ha : a < xss.length) (hb : b < xss.length) (hm : qMeet xss a b) {t : Nat} (ht : t < 2) :
    ∃ c x0 x1 y0 y1 : Nat, (c < P ∧ x0 < P ∧ x1 < P ∧ y0 < P ∧ y1 < P) ∧ sN (qX xss a b) 0 = x0 ∧ sN (qX xss a b) 1 = x1 ∧ sN (qX xss b a) t = y0 ∧ sN (qX xss b a) (1 - t) = y1 ∧
      (∀ v : Int, v ∈ row xss a ↔ v = (c : Int) ∨ v = (x0 : Int) ∨ v = (x1 : Int)) ∧ (∀ v : Int, v ∈ row xss b ↔ v = (c : Int) ∨ v = (y0 : Int) ∨ v = (y1 : Int)) ∧
      (c ≠ x0 ∧ c ≠ x1 ∧ c ≠ y0 ∧ c ≠ y1 ∧ x0 ≠ x1 ∧ y0 ≠ y1 ∧ x0 ≠ y0 ∧ x0 ≠ y1 ∧ x1 ≠ y0 ∧ x1 ≠ y1) := by
  obtain ⟨c, x0, x1, y0, y1, ⟨p0, p1, p2, p3, p4⟩, _, _, ex, ey, mx, my, n⟩ := h.shape hab ha hb hm
  rcases (show t = 0 ∨ t = 1 by omega) with rfl | rfl
  · exact ⟨c, x0, x1, y0, y1, ⟨p0, p1, p2, p3, p4⟩, by rw [ex]; rfl, by rw [ex]; rfl, by rw [ey]; rfl, by rw [ey]; rfl, mx, my, n⟩
  · exact ⟨c, x0, x1, y1, y0, ⟨p0, p1, p2, p4, p3⟩, by rw [ex]; rfl, by rw [ex]; rfl, by rw [ey]; rfl, by rw [ey]; rfl, mx, fun v => by rw [my]; exact or_congr_right Or.comm, by omega⟩
set_option maxHeartbeats 2000000 in
/-- The four blocks differ. -/
theorem TripSys.four {P : Nat} {xss : List (List Int)} (h : TripSys P xss) {a b : Nat} (hab : a ≠ b) (ha : a < xss.length) (hb : b < xss.length) (hm : qMeet xss a b) {t : Nat} (ht : t < 2) :
    qOne xss a b t < xss.length ∧ qTwo xss a b t < xss.length ∧ a ≠ qOne xss a b t ∧ a ≠ qTwo xss a b t ∧ b ≠ qOne xss a b t ∧ b ≠ qTwo xss a b t ∧ qOne xss a b t ≠ qTwo xss a b t := by
  obtain ⟨c, x0, x1, y0, y1, ⟨p0, p1, p2, p3, p4⟩, e1, e2, e3, e4, mx, my, n1, n2, n3, n4, n5, n6, n7, n8, n9, n10⟩ := h.way hab ha hb hm ht
  unfold qOne qTwo
  rw [e1, e2, e3, e4]
  obtain ⟨z, hz, q1, q2, _, k1, _, m1⟩ := h.look (x := x0) (y := y0) n7 p1 p3
  obtain ⟨z', hz', q3, q4, _, k2, _, m2⟩ := h.look (x := x1) (y := y1) n10 p2 p4
  have f1 := (m1 (x0 : Int)).2 (.inl rfl)
  have f2 := (m1 (y0 : Int)).2 (.inr (.inl rfl))
  have f3 := (m2 (x1 : Int)).2 (.inl rfl)
  have f4 := (m2 (y1 : Int)).2 (.inr (.inl rfl))
  refine ⟨k1, k2, fun e => ?_, fun e => ?_, fun e => ?_, fun e => ?_, fun e => ?_⟩
  · rw [← e] at f2; have := (mx _).1 f2; omega
  · rw [← e] at f4; have := (mx _).1 f4; omega
  · rw [← e] at f1; have := (my _).1 f1; omega
  · rw [← e] at f3; have := (my _).1 f3; omega
  · rw [← e] at f3 f4
    have g := h.same (x := x0) (y := x1) n5 p1 p2 k1 ha f1 f3 ((mx _).2 (.inr (.inl rfl))) ((mx _).2 (.inr (.inr rfl)))
    rw [g] at f2
    have := (mx _).1 f2
    omega
/-- The numbers of the four blocks, put one by one. -/
theorem put_four {a b c d : Int} (h1 : a ≠ b) (h2 : a ≠ c) (h3 : a ≠ d) (h4 : b ≠ c) (h5 : b ≠ d) (h6 : c ≠ d) : putL (putL (putL [a] b) c) d = sortL [a, b, c, d] := by
  have h := putsTo_sort (f := fun j => nth [a, b, c, d] j) (k := 4) (fun i j hij hj => by
    have e : (i = 0 ∧ j = 1) ∨ (i = 0 ∧ j = 2) ∨ (i = 0 ∧ j = 3) ∨ (i = 1 ∧ j = 2) ∨ (i = 1 ∧ j = 3) ∨ (i = 2 ∧ j = 3) := by omega
    rcases e with ⟨rfl, rfl⟩ | ⟨rfl, rfl⟩ | ⟨rfl, rfl⟩ | ⟨rfl, rfl⟩ | ⟨rfl, rfl⟩ | ⟨rfl, rfl⟩
    · exact h1
    · exact h2
    · exact h3
    · exact h4
    · exact h5
    · exact h6)
  exact h
theorem TripSys.qd_put {P : Nat} {xss : List (List Int)} (h : TripSys P xss) {a b : Nat} (hab : a ≠ b) (ha : a < xss.length) (hb : b < xss.length) (hm : qMeet xss a b) {t : Nat} (ht : t < 2) :
    putL (putL (putL [(a : Int)] (b : Int)) (qOne xss a b t : Int)) (qTwo xss a b t : Int) = qd xss a b t := by
  obtain ⟨_, _, h1, h2, h3, h4, h5⟩ := h.four hab ha hb hm ht
  exact put_four (by omega) (by omega) (by omega) (by omega) (by omega) (by omega)
/-- The two blocks may be taken in any order. -/
theorem TripSys.pair_comm {P : Nat} {xss : List (List Int)} (h : TripSys P xss) {a b : Nat} (hab : a ≠ b) (ha : a < xss.length) (hb : b < xss.length) : qPair xss a b = qPair xss b a := by
  unfold qPair
  by_cases hm : qMeet xss a b
  · rw [if_pos hm, if_pos ((qMeet_comm h ha hb).1 hm)]
    obtain ⟨c, x0, x1, y0, y1, ⟨p0, p1, p2, p3, p4⟩, _, _, ex, ey, mx, my, n⟩ := h.shape hab ha hb hm
    have hc : ∀ t, t < 2 → qCond xss a b t = qCond xss b a t ∧ qd xss a b t = qd xss b a t := by
      intro t ht
      rcases (show t = 0 ∨ t = 1 by omega) with rfl | rfl
      · unfold qCond qd qOne qTwo
        rw [ex, ey]
        simp only [(sN_two x0 x1).1, (sN_two x0 x1).2, (sN_two y0 y1).1, (sN_two y0 y1).2, Nat.sub_zero, Nat.sub_self]
        rw [h.th_comm (x := x0) (y := y0) (by omega) p1 p3, h.th_comm (x := x1) (y := y1) (by omega) p2 p4, h.ik_comm (x := x0) (y := y0) (by omega) p1 p3, h.ik_comm (x := x1) (y := y1) (by omega) p2 p4]
        exact ⟨rfl, sortQ_perm (List.Perm.swap _ _ _)⟩
      · unfold qCond qd qOne qTwo
        rw [ex, ey]
        simp only [(sN_two x0 x1).1, (sN_two x0 x1).2, (sN_two y0 y1).1, (sN_two y0 y1).2, Nat.sub_zero, Nat.sub_self]
        rw [h.th_comm (x := x1) (y := y0) (by omega) p2 p3, h.th_comm (x := x0) (y := y1) (by omega) p1 p4, h.ik_comm (x := x1) (y := y0) (by omega) p2 p3, h.ik_comm (x := x0) (y := y1) (by omega) p1 p4]
        exact ⟨decide_eq_decide.2 ⟨fun e => e.symm, fun e => e.symm⟩, sortQ_perm ((List.Perm.swap _ _ _).trans ((List.Perm.swap _ _ _).cons _ |>.cons _))⟩
    unfold qTo
    rw [List.filter_congr (q := fun t => qCond xss b a t) (fun t ht => (hc t (List.mem_range.1 ht)).1)]
    refine List.map_congr_left fun t ht => (hc t (List.mem_range.1 (List.mem_filter.1 ht).1)).2
  · rw [if_neg hm, if_neg fun h' => hm ((qMeet_comm h ha hb).2 h')]
end Go.Proofs.YtmmkmkbpgcbehaaGreat
