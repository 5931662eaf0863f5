/-
  TriplesOfSquare of both sides. Conditions: those of each theorem.
-/
import Derived.Test.YtdcegepkgcflpaaQg2
namespace Go.Proofs.Ytdcegepkgcflpaa
open Go.RowKit
set_option linter.unusedVariables false
set_option linter.unusedSimpArgs false

theorem OwnI.lit3 (w : World) (x y z : Int) {lo : Nat} (h : lo ≤ w.heap.size) : OwnI (w.alloc (.cells #[.int .i64 x, .int .i64 y, .int .i64 z] 2)) lo (some ⟨w.heap.size, 0, none⟩) 3 [x, y, z] :=
  World.ownsRow_lit (e := 2) (size := 1) w #[.int .i64 x, .int .i64 y, .int .i64 z] 3 h (by unfold maxLen; omega) rfl

def tqE (a : List (List Int)) (x y : Nat) : Int := nth (row a x) y
def tqIn (E : Nat → Nat → Int) (x k : Nat) : List (List Int) := (List.range k).flatMap fun y => if x < y ∧ (y : Int) < E x y then [[(x : Int), (y : Int), E x y]] else []
def tqRows (E : Nat → Nat → Int) (n x : Nat) : List (List Int) := (List.range x).flatMap fun i => tqIn E i n
def tqTo (E : Nat → Nat → Int) (n x k : Nat) : List (List Int) := tqRows E n x ++ tqIn E x k
theorem tqIn_succ (E : Nat → Nat → Int) (x k : Nat) : tqIn E x (k + 1) = tqIn E x k ++ if x < k ∧ (k : Int) < E x k then [[(x : Int), (k : Int), E x k]] else [] := by
  simp [tqIn, List.range_succ]
theorem tqIn_none (E : Nat → Nat → Int) (x k : Nat) (h : k ≤ x + 1) : tqIn E x k = [] := by
  induction k with
  | zero => rfl
  | succ k ih => rw [tqIn_succ, ih (by omega), if_neg (by omega)]; rfl
theorem tqTo_zero (E : Nat → Nat → Int) (n x : Nat) : tqTo E n x (x + 1) = tqRows E n x := by unfold tqTo; rw [tqIn_none E x (x + 1) (by omega), List.append_nil]
theorem tqRows_succ (E : Nat → Nat → Int) (n x : Nat) : tqRows E n (x + 1) = tqTo E n x n := by simp [tqRows, tqTo, List.range_succ]
theorem tqTo_skip {E : Nat → Nat → Int} {n x y : Nat} (h : ¬ (y : Int) < E x y) : tqTo E n x (y + 1) = tqTo E n x y := by
  unfold tqTo
  rw [tqIn_succ, if_neg (by omega), List.append_nil]
theorem tqTo_take {E : Nat → Nat → Int} {n x y : Nat} (hx : x < y) (h : (y : Int) < E x y) : tqTo E n x (y + 1) = tqTo E n x y ++ [[(x : Int), (y : Int), E x y]] := by
  unfold tqTo
  rw [tqIn_succ, if_pos ⟨hx, h⟩, List.append_assoc]
theorem tqRows_len {E : Nat → Nat → Int} {n x : Nat} {r : List Int} (h : r ∈ tqRows E n x) : r.length = 3 := by
  unfold tqRows tqIn at h
  simp only [List.mem_flatMap, List.mem_range] at h
  obtain ⟨i, _, y, _, h⟩ := h
  split at h
  · simp at h; rw [h]; rfl
  · simp at h
def tqC (a : List (List Int)) : Int :=
  if sqB a = true then (if diB a.length (tqE a) = true ∧ (coB a.length (tqE a) && seB a.length (tqE a)) = true ∧ 3 ≤ a.length then 0 else 6) else 1
def tqP (a : List (List Int)) : Int := if tqC a = 0 then (a.length : Int) else 0
def tqX (a : List (List Int)) : List (List Int) := if tqC a = 0 then sortLL (tqRows (tqE a) a.length a.length) else []
theorem sqB_iff {a : List (List Int)} : sqB a = true ↔ (1 ≤ a.length ∧ a.length ≤ 10) ∧ rwsOk a a.length ∧ clsOk a a.length := by
  unfold sqB; rw [decide_eq_true_eq]
theorem tq_bd {a : List (List Int)} (h : sqB a = true) : ∀ x y, x < a.length → y < a.length → 0 ≤ tqE a x y ∧ tqE a x y < (a.length : Int) := fun x y hx hy => by
  obtain ⟨h1, h2⟩ := (sqB_iff.1 h).2.1 x hx
  have h3 := perm_facts (of_decide_eq_true h2).2
  have := h3.1 (nth (row a x) y) (by
    have hy' : y < (row a x).length := by rw [h1]; exact hy
    have : nth (row a x) y = (row a x)[y] := by simp [nth, hy']
    rw [this]; exact List.getElem_mem hy')
  rw [h1] at this
  exact this
theorem TriplesOfSquare_small (a : List (List Int)) : (tqX a).length ≤ 1048576 ∧ tot (tqX a) ≤ 1048576 := by
  unfold tqX
  split
  · next h =>
    have hs : sqB a = true := by
      rcases hq : sqB a with _ | _
      · unfold tqC at h; rw [if_neg (by rw [hq]; simp)] at h; cases h
      · rfl
    have h10 := (sqB_iff.1 hs).1.2
    have hl : ∀ (E : Nat → Nat → Int) (n : Nat) x, n ≤ 10 → (tqRows E n x).length ≤ 10 * x := fun E n x hn => by
      induction x with
      | zero => simp [tqRows]
      | succ x ih =>
        rw [tqRows_succ]
        have : ∀ k, (tqIn E x k).length ≤ k := fun k => by
          induction k with
          | zero => simp [tqIn]
          | succ k ih => rw [tqIn_succ, List.length_append]; split <;> simp <;> omega
        have := this n
        unfold tqTo
        rw [List.length_append]
        omega
    have h3 := hl (tqE a) a.length a.length h10
    have h4 : tot (sortLL (tqRows (tqE a) a.length a.length)) ≤ (sortLL (tqRows (tqE a) a.length a.length)).length * 3 := tot_le_of (fun r hr => by
      have := tqRows_len (sortLL_mem.1 hr)
      omega)
    rw [sortLL_len] at h4 ⊢
    omega
  · simp [tot]

set_option maxRecDepth 100000 in
set_option maxHeartbeats 8000000 in
theorem specTriplesOfSquare_c (w : World) (A : Option Addr) (n c : Nat) (R : Spine) (a : List (List Int)) (hr : RdM w A c R a) (hn : a.length = n) (hw : WfM a) (hz : (n : Int) + (tot a : Nat) ≤ 1048576) :
    Calls Try.prog 21 #[.slice A n c] w (PostDC w (tqP a) (tqX a) (tqC a)) := by
  clear hw hz
  have hzD := zeroD
  obtain ⟨wa, hwa⟩ : ∃ wa, wa = w.alloc (.cells #[.int .i64 0, .slice none 0 0] 25) := ⟨_, rfl⟩
  have hZa : RBox wa w.heap.size := by rw [hwa]; exact RBox.made w 25
  have hBa : Below w.heap.size w wa := by rw [hwa]; exact below_boxed w (.cells #[.int .i64 0, .slice none 0 0] 25)
  have hsa : w.heap.size + 1 ≤ wa.heap.size := by rw [hwa]; simp
  have HZa := Lib.hid hZa
  have HBa := Lib.hid hBa
  have hO := l06Ok_c wa A n c R a (hr.below hBa) hn
  rw [hwa] at hO
  rcases hd : sqB a with _ | _
  · have hC : tqC a = 1 := if_neg (by rw [hd]; simp)
    rw [show tqP a = 0 from if_neg (by rw [hC]; decide), show tqX a = [] from if_neg (by rw [hC]; decide), hC]
    rw [hd] at hO
    have HO := Lib.hid hO
    have HWa := Lib.hid hwa
    clear hO hwa hZa hBa hr hn hd hC
    go_enter Try.func21, Try.ntmps21
    go_wp2_with fail
    refine (HO.out).mono ?_
    rintro e w2 ⟨rfl, hb2⟩
    rw [← HWa.out] at hb2
    have HZ2 := Lib.hid (HZa.out.step (lo := wa.heap.size) (by omega) hb2)
    have HB2 := Lib.hid (HBa.out.trans (hb2.mono HBa.out.size))
    have hs2 : w.heap.size + 1 ≤ w2.heap.size := by have := hb2.size; omega
    clear hb2
    have rz := HZ2.out
    have z0 := rz.c0
    have z1 := rz.c1
    have y0 := rz.f0
    have y1 := rz.f1
    clear rz
    go_wp2
    obtain ⟨r0, r1⟩ := HZ2.out.read (.int .i64 0) (.slice none 0 0)
    refine bodyPost_ret (v := .tuple #[.agg #[.int .i64 0, .slice none 0 0], .int .i64 1]) (by simp [results, Try.results21, go_sem, r0, r1]) rfl ⟨⟨none, 0, 0, fun _ => (none, 0), rfl, rfl, OwnM.nil_ _ _ _⟩, by first | exact HB2.out | exact below_set2 HB2.out (by omega)⟩
  rw [hd] at hO
  have HO := Lib.hid hO
  have HWa := Lib.hid hwa
  obtain ⟨⟨h1, h10⟩, hrw, _⟩ := sqB_iff.1 hd
  rw [hn] at h1 h10 hrw
  have hEb := tq_bd hd
  obtain ⟨b, o, fb, fo, rfl, hG⟩ := grid_of (hr.below hBa) hn h1 (fun x hx => (hrw x hx).1.trans hn)
  have hcode : tqC a = if diB n (tqE a) = true ∧ (coB n (tqE a) && seB n (tqE a)) = true ∧ 3 ≤ n then 0 else 6 := by unfold tqC; rw [if_pos hd, hn]
  have hP0 : tqC a = 0 → tqP a = (n : Int) := fun h => by unfold tqP; rw [if_pos h, hn]
  have hX0 : tqC a = 0 → tqX a = sortLL (tqRows (tqE a) n n) := fun h => by unfold tqX; rw [if_pos h, hn]
  have hP6 : tqC a = 6 → tqP a = 0 := fun h => by unfold tqP; rw [if_neg (by rw [h]; decide)]
  have hX6 : tqC a = 6 → tqX a = [] := fun h => by unfold tqX; rw [if_neg (by rw [h]; decide)]
  rw [hn] at hEb
  have hG' : Grid wa n b o fb fo (fun x => (R x).2) (tqE a) := hG
  generalize (fun x => (R x).2) = fc at hG'
  clear hG hr hd hrw hn
  generalize tqE a = E at *
  generalize tqC a = code at *
  generalize tqP a = ptq at *
  generalize tqX a = lsq at *
  have HG := Lib.hid hG'
  have HE := Lib.hid hEb
  rcases hdi : diB n E with _ | _
  · skip
    have h6 : code = 6 := hcode.trans (if_neg (fun h => by rw [hdi] at h; cases h.1))
    rw [h6, hP6 h6, hX6 h6]
    clear hcode hP6 hX6 hP0 hX0 h6 hO hwa hZa hBa hG' hEb
    go_enter Try.func21, Try.ntmps21
    go_wp2_with fail
    refine (HO.out).mono ?_
    rintro e w2 ⟨rfl, hb2⟩
    rw [← HWa.out] at hb2
    have HZ2 := Lib.hid (HZa.out.step (lo := wa.heap.size) (by omega) hb2)
    have HB2 := Lib.hid (HBa.out.trans (hb2.mono HBa.out.size))
    have HG2 := Lib.hid (HG.out.below hb2 (Nat.le_refl _))
    have hs2 : w.heap.size + 1 ≤ w2.heap.size := by have := hb2.size; omega
    clear hb2
    have HD := Lib.hid (l08Holds1_c w2 n b o c fb fo fc E HG2.out h10)
    rw [hdi] at HD
    clear hdi
    go_wp2_with fail
    refine (HD.out).mono ?_
    rintro e w' ⟨rfl, q, rfl⟩
    have HZ3 := Lib.hid (HZ2.out.drewN q)
    have HB3 := Lib.hid (below_drewN HB2.out q)
    generalize w2.drewN q = w3 at *
    have rz := HZ3.out
    have z0 := rz.c0
    have z1 := rz.c1
    have y0 := rz.f0
    have y1 := rz.f1
    clear rz
    go_wp2
    obtain ⟨r0, r1⟩ := HZ3.out.read (.int .i64 0) (.slice none 0 0)
    refine bodyPost_ret (v := .tuple #[.agg #[.int .i64 0, .slice none 0 0], .int .i64 6]) (by simp [results, Try.results21, go_sem, r0, r1]) rfl ⟨⟨none, 0, 0, fun _ => (none, 0), rfl, rfl, OwnM.nil_ _ _ _⟩, by first | exact HB3.out | exact below_set2 HB3.out (by omega)⟩
  rcases hto : (coB n E && seB n E) with _ | _
  · skip
    have h6 : code = 6 := hcode.trans (if_neg (fun h => by rw [hto] at h; cases h.2.1))
    rw [h6, hP6 h6, hX6 h6]
    clear hcode hP6 hX6 hP0 hX0 h6 hO hwa hZa hBa hG' hEb
    go_enter Try.func21, Try.ntmps21
    go_wp2_with fail
    refine (HO.out).mono ?_
    rintro e w2 ⟨rfl, hb2⟩
    rw [← HWa.out] at hb2
    have HZ2 := Lib.hid (HZa.out.step (lo := wa.heap.size) (by omega) hb2)
    have HB2 := Lib.hid (HBa.out.trans (hb2.mono HBa.out.size))
    have HG2 := Lib.hid (HG.out.below hb2 (Nat.le_refl _))
    have hs2 : w.heap.size + 1 ≤ w2.heap.size := by have := hb2.size; omega
    clear hb2
    have HD := Lib.hid (l08Holds1_c w2 n b o c fb fo fc E HG2.out h10)
    have HT := Lib.hid (fun q => l08Holds8_c (w2.drewN q) n b o c fb fo fc E (HG2.out.drewN q) h10 HE.out)
    rw [hdi] at HD
    rw [hto] at HT
    clear hdi hto
    go_wp2_with fail
    refine (HD.out).mono ?_
    rintro e w' ⟨rfl, q, rfl⟩
    go_wp2_with fail
    refine (HT.out q).mono ?_
    rintro e w' ⟨rfl, q2, rfl⟩
    have HZ3 := Lib.hid ((HZ2.out.drewN q).drewN q2)
    have HB3 := Lib.hid (below_drewN (below_drewN HB2.out q) q2)
    generalize (w2.drewN q).drewN q2 = w3 at *
    have rz := HZ3.out
    have z0 := rz.c0
    have z1 := rz.c1
    have y0 := rz.f0
    have y1 := rz.f1
    clear rz
    go_wp2
    obtain ⟨r0, r1⟩ := HZ3.out.read (.int .i64 0) (.slice none 0 0)
    refine bodyPost_ret (v := .tuple #[.agg #[.int .i64 0, .slice none 0 0], .int .i64 6]) (by simp [results, Try.results21, go_sem, r0, r1]) rfl ⟨⟨none, 0, 0, fun _ => (none, 0), rfl, rfl, OwnM.nil_ _ _ _⟩, by first | exact HB3.out | exact below_set2 HB3.out (by omega)⟩
  have hcalls : True := trivial
  have HD := Lib.hid (fun (W : World) (g : Grid W n b o fb fo fc E) => by have := l08Holds1_c W n b o c fb fo fc E g h10; rwa [hdi] at this)
  have HT := Lib.hid (fun (W : World) (g : Grid W n b o fb fo fc E) => by have := l08Holds8_c W n b o c fb fo fc E g h10 HE.out; rwa [hto] at this)
  by_cases h3 : 3 ≤ n
  rotate_left
  · have hd3 : decide ((n : Int) < 3) = true := by simp; omega
    have hd4 : (n : Int) < 3 := by omega
    have h6 : code = 6 := hcode.trans (if_neg (fun h => h3 h.2.2))
    rw [h6, hP6 h6, hX6 h6]
    clear hcode hP6 hX6 hP0 hX0 h6 hO hwa hZa hBa hG' hEb
    go_enter Try.func21, Try.ntmps21
    go_wp2_with fail
    refine (HO.out).mono ?_
    rintro e w2 ⟨rfl, hb2⟩
    rw [← HWa.out] at hb2
    have HZ2 := Lib.hid (HZa.out.step (lo := wa.heap.size) (by omega) hb2)
    have HB2 := Lib.hid (HBa.out.trans (hb2.mono HBa.out.size))
    have HG2 := Lib.hid (HG.out.below hb2 (Nat.le_refl _))
    have hs2 : w.heap.size + 1 ≤ w2.heap.size := by have := hb2.size; omega
    clear hb2
    go_wp2_with fail
    refine (HD.out w2 HG2.out).mono ?_
    rintro e w' ⟨rfl, q, rfl⟩
    go_wp2_with fail
    refine (HT.out _ (HG2.out.drewN q)).mono ?_
    rintro e w' ⟨rfl, q2, rfl⟩
    have HZ3 := Lib.hid ((HZ2.out.drewN q).drewN q2)
    have HB3 := Lib.hid (below_drewN (below_drewN HB2.out q) q2)
    generalize (w2.drewN q).drewN q2 = w3 at *
    have rz := HZ3.out
    have z0 := rz.c0
    have z1 := rz.c1
    have y0 := rz.f0
    have y1 := rz.f1
    clear rz
    go_wp2
    obtain ⟨r0, r1⟩ := HZ3.out.read (.int .i64 0) (.slice none 0 0)
    refine bodyPost_ret (v := .tuple #[.agg #[.int .i64 0, .slice none 0 0], .int .i64 6]) (by simp [results, Try.results21, go_sem, r0, r1]) rfl ⟨⟨none, 0, 0, fun _ => (none, 0), rfl, rfl, OwnM.nil_ _ _ _⟩, by first | exact HB3.out | exact below_set2 HB3.out (by omega)⟩
  have hd3 : decide ((n : Int) < 3) = false := by simp; omega
  have hok : code = 0 := hcode.trans (if_pos ⟨hdi, hto, h3⟩)
  rw [hok, hP0 hok, hX0 hok]
  clear hcode hP6 hX6 hP0 hX0 hok hO hwa hZa hBa hG' hEb hdi hto
  go_enter Try.func21, Try.ntmps21
  go_wp2_with fail
  refine (HO.out).mono ?_
  rintro e w2 ⟨rfl, hb2⟩
  rw [← HWa.out] at hb2
  have HZ2 := Lib.hid (HZa.out.step (lo := wa.heap.size) (by omega) hb2)
  have HB2 := Lib.hid (HBa.out.trans (hb2.mono HBa.out.size))
  have HG2 := Lib.hid (HG.out.below hb2 (Nat.le_refl _))
  have hs2 : w.heap.size + 1 ≤ w2.heap.size := by have := hb2.size; omega
  clear hb2
  go_wp2_with fail
  refine (HD.out w2 HG2.out).mono ?_
  rintro e w' ⟨rfl, q, rfl⟩
  go_wp2_with fail
  refine (HT.out _ (HG2.out.drewN q)).mono ?_
  rintro e w' ⟨rfl, q2, rfl⟩
  have HZ2 := Lib.hid ((HZ2.out.drewN q).drewN q2)
  have HB2 := Lib.hid (below_drewN (below_drewN HB2.out q) q2)
  have HG2 := Lib.hid ((HG2.out.drewN q).drewN q2)
  have hs2 : w.heap.size + 1 ≤ ((w2.drewN q).drewN q2).heap.size := hs2
  generalize (w2.drewN q).drewN q2 = w2 at *
  have HE0 := Lib.hid (OwnM.lit0 w2 (Nat.le_refl w2.heap.size) (fun _ => (none, 0)))
  have HEb0 := Lib.hid ((Below.refl w2.heap.size w2).alloc (Nat.le_refl _) (.cells #[] 50))
  go_wp2
  go_loopw [4, 5, 6] (fun o' v _ wr => ∃ (x s : Nat) (A' : Option Addr) (c' : Nat) (R' : Spine), x ≤ n ∧ v = .int .i64 x ∧ o' = .slice A' s c' ∧ Hid ((tqRows E n x).length = s) ∧ s ≤ 10 * x ∧ Hid (OwnM wr w2.heap.size A' c' R' (tqRows E n x)) ∧ Hid (Below w2.heap.size w2 wr)) (fun _ v _ _ => n - (intOf v).toNat)
  case atStart => exact ⟨0, 0, _, _, _, Nat.zero_le _, rfl, rfl, Lib.hid rfl, Nat.zero_le _, HE0, HEb0⟩
  case round =>
    obtain ⟨x, s, A', c', R', hx, rfl, rfl, HS, hs, HO3, HB3⟩ := hrel
    have HBw := Lib.hid (HB2.out.trans (HB3.out.mono HB2.out.size))
    by_cases hxn : x < n
    · have hx0 : (0 : Int) ≤ (x : Int) := by omega
      have hx2 : (x : Int) < (n : Int) := by omega
      obtain ⟨wo, rfl⟩ : ∃ wo, wo = wr := ⟨_, rfl⟩
      go_wp2
      go_loopw [4, 6] (fun o' v wr => ∃ (y t : Nat) (A' : Option Addr) (c' : Nat) (R' : Spine), y ≤ n ∧ x < y ∧ v = .int .i64 y ∧ o' = .slice A' t c' ∧ Hid ((tqTo E n x y).length = t) ∧ t ≤ 10 * x + y ∧ Hid (OwnM wr w2.heap.size A' c' R' (tqTo E n x y)) ∧ Hid (Below w2.heap.size w2 wr)) (fun _ v _ => n - (intOf v).toNat)
      case atStart => exact ⟨x + 1, s, _, _, _, by omega, by omega, by go_num, rfl, Lib.hid (by rw [tqTo_zero]; exact HS.out), by omega, Lib.hid (by rw [tqTo_zero]; exact HO3.out), HB3⟩
      case round =>
        obtain ⟨y, t, A5, c5, R5, hy, hxy, rfl, rfl, HT, ht, HO5, HB5⟩ := hrel
        have hsz5 := HB5.out.size
        by_cases hyn : y < n
        · have HG5 := Lib.hid (HG2.out.below HB5.out (Nat.le_refl _))
          have hc := HG5.out.row x hxn
          have hc2 := HG5.out.ent x y hxn hyn
          have hy0 : (0 : Int) ≤ (y : Int) := by omega
          have hy2 : (y : Int) < (n : Int) := by omega
          obtain ⟨z, hz⟩ : ∃ z, z = E x y := ⟨_, rfl⟩
          rw [← hz] at hc2
          by_cases hzy : (y : Int) < z
          rotate_left
          · have hd1 : decide ((y : Int) < z) = false := by simp; omega
            have HT' := Lib.hid (show (tqTo E n x (y + 1)).length = t by rw [tqTo_skip (by rw [← hz]; omega)]; exact HT.out)
            have HO' := Lib.hid (show OwnM wr w2.heap.size A5 c5 R5 (tqTo E n x (y + 1)) by rw [tqTo_skip (by rw [← hz]; omega)]; exact HO5.out)
            clear hz
            go_wp2
            go_roundw
            case rel => exact ⟨y + 1, t, A5, c5, R5, by omega, by omega, by go_num, rfl, HT', by omega, HO', HB5⟩
            case measure => simp [intOf]; omega
          · have hd1 : decide ((y : Int) < z) = true := by simp; omega
            have HSu := Lib.hid (show tqTo E n x (y + 1) = tqTo E n x y ++ [[(x : Int), (y : Int), z]] by rw [hz]; exact tqTo_take hxy (by rw [← hz]; exact hzy))
            have HI3 := OwnI.lit3 wr (x : Int) (y : Int) z (Nat.le_refl wr.heap.size)
            have HAp := Lib.hid (later_apart HO5.out HI3)
            have HX7 := Lib.hid ((HI3.lower (lo' := w2.heap.size) hsz5).alloc (.cells #[.slice (some ⟨wr.heap.size, 0, none⟩) 3 3] 50))
            have HE7 := Lib.hid ((HO5.out.alloc (.cells #[.int .i64 (x : Int), .int .i64 (y : Int), .int .i64 z] 2)).alloc (.cells #[.slice (some ⟨wr.heap.size, 0, none⟩) 3 3] 50))
            have HB7 := Lib.hid ((HB5.out.alloc hsz5 (.cells #[.int .i64 (x : Int), .int .i64 (y : Int), .int .i64 z] 2)).alloc (by simp; omega) (.cells #[.slice (some ⟨wr.heap.size, 0, none⟩) 3 3] 50))
            clear hz HI3
            go_wp2_with (at_builtin
                         refine wpM_append rfl _ _ rfl w2.heap.size _ _ _ R5 (tqTo E n x y) (some ⟨wr.heap.size, 0, none⟩) 3 3 [(x : Int), (y : Int), z] (wr.heap.size + 1) rfl (by simp [go_sem]) HT.out rfl HE7.out HX7.out HAp.out (by first | exact World.cell?_alloc_at _ _ _ _ rfl | simp) (by omega) (by simp; omega) ?_
                         intro A8 c8 R8 w8 ho8 hg8 ha8)
            have HB8 := Lib.hid (HB7.out.trans (below_blkM HE7.out hg8 (Nat.le_refl _) (by simp; omega)))
            have HO8 := Lib.hid (show OwnM w8 w2.heap.size A8 c8 R8 (tqTo E n x (y + 1)) from by rw [HSu.out]; exact ho8)
            have HT8 := Lib.hid (show (tqTo E n x (y + 1)).length = t + 1 from by rw [HSu.out, List.length_append, HT.out]; rfl)
            clear ho8 hg8 ha8 hc hc2
            go_wp2
            go_roundw
            case rel => exact ⟨y + 1, t + 1, A8, c8, R8, by omega, by omega, by go_num, rfl, HT8, by omega, HO8, HB8⟩
            case measure => simp [intOf]; omega
        · obtain rfl : y = n := by omega
          have HS9 := Lib.hid (show (tqRows E y (x + 1)).length = t from by rw [tqRows_succ]; exact HT.out)
          have HO9 := Lib.hid (show OwnM wr w2.heap.size A5 c5 R5 (tqRows E y (x + 1)) from by rw [tqRows_succ]; exact HO5.out)
          go_wp2
          go_roundw
          case rel => exact ⟨x + 1, t, A5, c5, R5, by omega, by go_num, rfl, HS9, by omega, HO9, HB5⟩
          case measure => simp [intOf]; omega
    · obtain rfl : x = n := by omega
      have hmem : ∀ k, k < s → (row (tqRows E x x) k).length = 3 := fun k hk => by
        rw [row_eq (by rw [HS.out]; exact hk)]
        exact tqRows_len (List.getElem_mem _)
      have HMk := Lib.hid (l10Sort_c wr A' s c' R' (tqRows E x x) HO3.out.rd HS.out (by have := nilCap_of_rows HO3.out.rd (fun k hk => by rw [hmem k (by rw [← HS.out]; exact hk)]; omega); rwa [HS.out] at this) (by omega) (fun k hk => by rw [hmem k hk]; omega))
      have hsz3 := HB3.out.size
      have HZ3 := Lib.hid (HZ2.out.step (lo := w2.heap.size) (by omega) HB3.out)
      clear hmem
      go_wp2_with fail
      refine (HMk.out).mono ?_
      rintro e w9 ⟨⟨A9, n9, c9, R9, rfl, hn9, ho9⟩, hb9⟩
      have HZ9 := Lib.hid (HZ3.out.step (lo := wr.heap.size) (by omega) hb9)
      have HB9 := Lib.hid (HBw.out.trans (hb9.mono HBw.out.size))
      have HO9 := Lib.hid (show OwnM w9 (w.heap.size + 1) A9 c9 R9 (sortLL (tqRows E x x)) from ho9.lower (by omega))
      have HN9 := Lib.hid hn9
      clear hb9 ho9 hn9
      generalize sortLL (tqRows E x x) = lst at *
      have rz := HZ9.out
      have z0 := rz.c0
      have z1 := rz.c1
      have y0 := rz.f0
      have y1 := rz.f1
      clear rz
      go_wp2
      obtain ⟨r0, r1⟩ := HZ9.out.read (.int .i64 (x : Int)) (.slice A9 n9 c9)
      refine bodyPost_ret (v := .tuple #[.agg #[.int .i64 (x : Int), .slice A9 n9 c9], .int .i64 0]) (by simp [results, Try.results21, go_sem, r0, r1]) rfl ⟨⟨A9, n9, c9, R9, rfl, HN9.out, own_set2 HO9.out (by omega) _ _⟩, below_set2 HB9.out (by omega)⟩

set_option maxRecDepth 100000 in
set_option maxHeartbeats 8000000 in
theorem implTriplesOfSquare_c (w : World) (A : Option Addr) (n c : Nat) (R : Spine) (a : List (List Int)) (hr : RdM w A c R a) (hn : a.length = n) (hw : WfM a) (hz : (n : Int) + (tot a : Nat) ≤ 1048576) :
    Calls Try.prog 22 #[.slice A n c] w (PostDC w (tqP a) (tqX a) (tqC a)) := by
  have hrw2 : ∀ k, k < a.length → (row a k).length ≤ 1048576 := fun k hk => by have := row_small (show tot a ≤ 1048576 by omega) k hk; omega
  clear hw hz
  have hzD := zeroD
  obtain ⟨wa, hwa⟩ : ∃ wa, wa = w.alloc (.cells #[.int .i64 0, .slice none 0 0] 25) := ⟨_, rfl⟩
  have hZa : RBox wa w.heap.size := by rw [hwa]; exact RBox.made w 25
  have hBa : Below w.heap.size w wa := by rw [hwa]; exact below_boxed w (.cells #[.int .i64 0, .slice none 0 0] 25)
  have hsa : w.heap.size + 1 ≤ wa.heap.size := by rw [hwa]; simp
  have HZa := Lib.hid hZa
  have HBa := Lib.hid hBa
  have hO := ValidSquare_c wa A n c R a (hr.below hBa) hn hrw2
  rw [hwa] at hO
  rcases hd : sqB a with _ | _
  · have hC : tqC a = 1 := if_neg (by rw [hd]; simp)
    rw [show tqP a = 0 from if_neg (by rw [hC]; decide), show tqX a = [] from if_neg (by rw [hC]; decide), hC]
    rw [hd] at hO
    have HO := Lib.hid hO
    have HWa := Lib.hid hwa
    clear hO hwa hZa hBa hr hn hd hC
    go_enter Try.func22, Try.ntmps22
    go_wp2_with fail
    refine (HO.out).mono ?_
    rintro e w2 ⟨rfl, hb2⟩
    rw [← HWa.out] at hb2
    have HZ2 := Lib.hid (HZa.out.step (lo := wa.heap.size) (by omega) hb2)
    have HB2 := Lib.hid (HBa.out.trans (hb2.mono HBa.out.size))
    have hs2 : w.heap.size + 1 ≤ w2.heap.size := by have := hb2.size; omega
    clear hb2
    have rz := HZ2.out
    have z0 := rz.c0
    have z1 := rz.c1
    have y0 := rz.f0
    have y1 := rz.f1
    clear rz
    go_wp2
    obtain ⟨r0, r1⟩ := HZ2.out.read (.int .i64 0) (.slice none 0 0)
    refine bodyPost_ret (v := .tuple #[.agg #[.int .i64 0, .slice none 0 0], .int .i64 1]) (by simp [results, Try.results22, go_sem, r0, r1]) rfl ⟨⟨none, 0, 0, fun _ => (none, 0), rfl, rfl, OwnM.nil_ _ _ _⟩, by first | exact HB2.out | exact below_set2 HB2.out (by omega)⟩
  rw [hd] at hO
  have HO := Lib.hid hO
  have HWa := Lib.hid hwa
  obtain ⟨⟨h1, h10⟩, hrw, _⟩ := sqB_iff.1 hd
  rw [hn] at h1 h10 hrw
  have hEb := tq_bd hd
  obtain ⟨b, o, fb, fo, rfl, hG⟩ := grid_of (hr.below hBa) hn h1 (fun x hx => (hrw x hx).1.trans hn)
  have hcode : tqC a = if diB n (tqE a) = true ∧ (coB n (tqE a) && seB n (tqE a)) = true ∧ 3 ≤ n then 0 else 6 := by unfold tqC; rw [if_pos hd, hn]
  have hP0 : tqC a = 0 → tqP a = (n : Int) := fun h => by unfold tqP; rw [if_pos h, hn]
  have hX0 : tqC a = 0 → tqX a = sortLL (tqRows (tqE a) n n) := fun h => by unfold tqX; rw [if_pos h, hn]
  have hP6 : tqC a = 6 → tqP a = 0 := fun h => by unfold tqP; rw [if_neg (by rw [h]; decide)]
  have hX6 : tqC a = 6 → tqX a = [] := fun h => by unfold tqX; rw [if_neg (by rw [h]; decide)]
  rw [hn] at hEb
  have hG' : Grid wa n b o fb fo (fun x => (R x).2) (tqE a) := hG
  generalize (fun x => (R x).2) = fc at hG'
  clear hG hr hd hrw hn
  generalize tqE a = E at *
  generalize tqC a = code at *
  generalize tqP a = ptq at *
  generalize tqX a = lsq at *
  have HG := Lib.hid hG'
  have HE := Lib.hid hEb
  clear hrw2
  by_cases h3 : 3 ≤ n
  rotate_left
  · have hd3 : decide ((n : Int) < 3) = true := by simp; omega
    have hd4 : (n : Int) < 3 := by omega
    have h6 : code = 6 := hcode.trans (if_neg (fun h => h3 h.2.2))
    rw [h6, hP6 h6, hX6 h6]
    clear hcode hP6 hX6 hP0 hX0 h6 hO hwa hZa hBa hG' hEb
    go_enter Try.func22, Try.ntmps22
    go_wp2_with fail
    refine (HO.out).mono ?_
    rintro e w2 ⟨rfl, hb2⟩
    rw [← HWa.out] at hb2
    have HZ2 := Lib.hid (HZa.out.step (lo := wa.heap.size) (by omega) hb2)
    have HB2 := Lib.hid (HBa.out.trans (hb2.mono HBa.out.size))
    have HG2 := Lib.hid (HG.out.below hb2 (Nat.le_refl _))
    have hs2 : w.heap.size + 1 ≤ w2.heap.size := by have := hb2.size; omega
    clear hb2
    go_wp2_with fail
    refine (sizeS_c _ _ _ _).mono ?_
    rintro e w' ⟨rfl, rfl⟩
    have rz := HZ2.out
    have z0 := rz.c0
    have z1 := rz.c1
    have y0 := rz.f0
    have y1 := rz.f1
    clear rz
    go_wp2
    obtain ⟨r0, r1⟩ := HZ2.out.read (.int .i64 0) (.slice none 0 0)
    refine bodyPost_ret (v := .tuple #[.agg #[.int .i64 0, .slice none 0 0], .int .i64 6]) (by simp [results, Try.results22, go_sem, r0, r1]) rfl ⟨⟨none, 0, 0, fun _ => (none, 0), rfl, rfl, OwnM.nil_ _ _ _⟩, by first | exact HB2.out | exact below_set2 HB2.out (by omega)⟩
  have hd3 : decide ((n : Int) < 3) = false := by simp; omega
  rcases hdi : diB n E with _ | _
  · skip
    have h6 : code = 6 := hcode.trans (if_neg (fun h => by rw [hdi] at h; cases h.1))
    rw [h6, hP6 h6, hX6 h6]
    clear hcode hP6 hX6 hP0 hX0 h6 hO hwa hZa hBa hG' hEb
    go_enter Try.func22, Try.ntmps22
    go_wp2_with fail
    refine (HO.out).mono ?_
    rintro e w2 ⟨rfl, hb2⟩
    rw [← HWa.out] at hb2
    have HZ2 := Lib.hid (HZa.out.step (lo := wa.heap.size) (by omega) hb2)
    have HB2 := Lib.hid (HBa.out.trans (hb2.mono HBa.out.size))
    have HG2 := Lib.hid (HG.out.below hb2 (Nat.le_refl _))
    have hs2 : w.heap.size + 1 ≤ w2.heap.size := by have := hb2.size; omega
    clear hb2
    have HD := Lib.hid (satisfies1_c w2 n b o c fb fo fc E HG2.out h10 HE.out)
    rw [hdi] at HD
    clear hdi
    go_wp2_with fail
    refine (sizeS_c _ _ _ _).mono ?_
    rintro e w' ⟨rfl, rfl⟩
    go_wp2_with fail
    refine (HD.out).mono ?_
    rintro e w3 ⟨rfl, hb3⟩
    have HZ3 := Lib.hid (HZ2.out.step (lo := w2.heap.size) (by omega) hb3)
    have HB3 := Lib.hid (HB2.out.trans (hb3.mono HB2.out.size))
    clear hb3
    have rz := HZ3.out
    have z0 := rz.c0
    have z1 := rz.c1
    have y0 := rz.f0
    have y1 := rz.f1
    clear rz
    go_wp2
    obtain ⟨r0, r1⟩ := HZ3.out.read (.int .i64 0) (.slice none 0 0)
    refine bodyPost_ret (v := .tuple #[.agg #[.int .i64 0, .slice none 0 0], .int .i64 6]) (by simp [results, Try.results22, go_sem, r0, r1]) rfl ⟨⟨none, 0, 0, fun _ => (none, 0), rfl, rfl, OwnM.nil_ _ _ _⟩, by first | exact HB3.out | exact below_set2 HB3.out (by omega)⟩
  rcases hto : (coB n E && seB n E) with _ | _
  · skip
    have h6 : code = 6 := hcode.trans (if_neg (fun h => by rw [hto] at h; cases h.2.1))
    rw [h6, hP6 h6, hX6 h6]
    clear hcode hP6 hX6 hP0 hX0 h6 hO hwa hZa hBa hG' hEb
    go_enter Try.func22, Try.ntmps22
    go_wp2_with fail
    refine (HO.out).mono ?_
    rintro e w2 ⟨rfl, hb2⟩
    rw [← HWa.out] at hb2
    have HZ2 := Lib.hid (HZa.out.step (lo := wa.heap.size) (by omega) hb2)
    have HB2 := Lib.hid (HBa.out.trans (hb2.mono HBa.out.size))
    have HG2 := Lib.hid (HG.out.below hb2 (Nat.le_refl _))
    have hs2 : w.heap.size + 1 ≤ w2.heap.size := by have := hb2.size; omega
    clear hb2
    have HD := Lib.hid (satisfies1_c w2 n b o c fb fo fc E HG2.out h10 HE.out)
    have HT := Lib.hid (fun W (g : Grid W n b o fb fo fc E) => satisfies8_c W n b o c fb fo fc E g h10 HE.out)
    rw [hdi] at HD
    rw [hto] at HT
    clear hdi hto
    go_wp2_with fail
    refine (sizeS_c _ _ _ _).mono ?_
    rintro e w' ⟨rfl, rfl⟩
    go_wp2_with fail
    refine (HD.out).mono ?_
    rintro e w3 ⟨rfl, hb3⟩
    have HG3 := Lib.hid (HG2.out.below hb3 (Nat.le_refl _))
    have HZ3 := Lib.hid (HZ2.out.step (lo := w2.heap.size) (by omega) hb3)
    have HB3 := Lib.hid (HB2.out.trans (hb3.mono HB2.out.size))
    have hs3 : w.heap.size + 1 ≤ w3.heap.size := by have := hb3.size; omega
    clear hb3
    go_wp2_with fail
    refine (HT.out _ HG3.out).mono ?_
    rintro e w4 ⟨rfl, hb4⟩
    have HZ4 := Lib.hid (HZ3.out.step (lo := w3.heap.size) (by omega) hb4)
    have HB4 := Lib.hid (HB3.out.trans (hb4.mono HB3.out.size))
    clear hb4
    have rz := HZ4.out
    have z0 := rz.c0
    have z1 := rz.c1
    have y0 := rz.f0
    have y1 := rz.f1
    clear rz
    go_wp2
    obtain ⟨r0, r1⟩ := HZ4.out.read (.int .i64 0) (.slice none 0 0)
    refine bodyPost_ret (v := .tuple #[.agg #[.int .i64 0, .slice none 0 0], .int .i64 6]) (by simp [results, Try.results22, go_sem, r0, r1]) rfl ⟨⟨none, 0, 0, fun _ => (none, 0), rfl, rfl, OwnM.nil_ _ _ _⟩, by first | exact HB4.out | exact below_set2 HB4.out (by omega)⟩
  have HD := Lib.hid (fun (W : World) (g : Grid W n b o fb fo fc E) => by have := satisfies1_c W n b o c fb fo fc E g h10 HE.out; rwa [hdi] at this)
  have HT := Lib.hid (fun (W : World) (g : Grid W n b o fb fo fc E) => by have := satisfies8_c W n b o c fb fo fc E g h10 HE.out; rwa [hto] at this)
  have hok : code = 0 := hcode.trans (if_pos ⟨hdi, hto, h3⟩)
  rw [hok, hP0 hok, hX0 hok]
  clear hcode hP6 hX6 hP0 hX0 hok hO hwa hZa hBa hG' hEb hdi hto
  go_enter Try.func22, Try.ntmps22
  go_wp2_with fail
  refine (HO.out).mono ?_
  rintro e w2 ⟨rfl, hb2⟩
  rw [← HWa.out] at hb2
  have HZ2 := Lib.hid (HZa.out.step (lo := wa.heap.size) (by omega) hb2)
  have HB2 := Lib.hid (HBa.out.trans (hb2.mono HBa.out.size))
  have HG2 := Lib.hid (HG.out.below hb2 (Nat.le_refl _))
  have hs2 : w.heap.size + 1 ≤ w2.heap.size := by have := hb2.size; omega
  clear hb2
  go_wp2_with fail
  refine (sizeS_c _ _ _ _).mono ?_
  rintro e w' ⟨rfl, rfl⟩
  go_wp2_with fail
  refine (HD.out w2 HG2.out).mono ?_
  rintro e w3 ⟨rfl, hb3⟩
  have HG3 := Lib.hid (HG2.out.below hb3 (Nat.le_refl _))
  have HZ3 := Lib.hid (HZ2.out.step (lo := w2.heap.size) (by omega) hb3)
  have HB3 := Lib.hid (HB2.out.trans (hb3.mono HB2.out.size))
  have hs3 : w.heap.size + 1 ≤ w3.heap.size := by have := hb3.size; omega
  clear hb3
  go_wp2_with fail
  refine (HT.out _ HG3.out).mono ?_
  rintro e w4 ⟨rfl, hb4⟩
  have HZ2 := Lib.hid (HZ3.out.step (lo := w3.heap.size) (by omega) hb4)
  have HB2 := Lib.hid (HB3.out.trans (hb4.mono HB3.out.size))
  have HG2 := Lib.hid (HG3.out.below hb4 (Nat.le_refl _))
  have hs2 : w.heap.size + 1 ≤ w4.heap.size := by have := hb4.size; omega
  clear hb4
  obtain ⟨w2, rfl⟩ : ∃ w2, w2 = w4 := ⟨_, rfl⟩
  have HE0 := Lib.hid (OwnM.nil_ w2 w2.heap.size (fun _ => (none, 0)))
  have HEb0 := Lib.hid (Below.refl w2.heap.size w2)
  go_wp2
  go_loopw [5, 6, 7] (fun o' v _ wr => ∃ (x s : Nat) (A' : Option Addr) (c' : Nat) (R' : Spine), x ≤ n ∧ v = .int .i64 x ∧ o' = .slice A' s c' ∧ Hid ((tqRows E n x).length = s) ∧ s ≤ 10 * x ∧ Hid (OwnM wr w2.heap.size A' c' R' (tqRows E n x)) ∧ Hid (Below w2.heap.size w2 wr)) (fun _ v _ _ => n - (intOf v).toNat)
  case atStart => exact ⟨0, 0, _, _, _, Nat.zero_le _, rfl, rfl, Lib.hid rfl, Nat.zero_le _, HE0, HEb0⟩
  case round =>
    obtain ⟨x, s, A', c', R', hx, rfl, rfl, HS, hs, HO3, HB3⟩ := hrel
    have HBw := Lib.hid (HB2.out.trans (HB3.out.mono HB2.out.size))
    by_cases hxn : x < n
    · have hx0 : (0 : Int) ≤ (x : Int) := by omega
      have hx2 : (x : Int) < (n : Int) := by omega
      obtain ⟨wo, rfl⟩ : ∃ wo, wo = wr := ⟨_, rfl⟩
      go_wp2
      go_loopw [5, 7] (fun o' v wr => ∃ (y t : Nat) (A' : Option Addr) (c' : Nat) (R' : Spine), y ≤ n ∧ x < y ∧ v = .int .i64 y ∧ o' = .slice A' t c' ∧ Hid ((tqTo E n x y).length = t) ∧ t ≤ 10 * x + y ∧ Hid (OwnM wr w2.heap.size A' c' R' (tqTo E n x y)) ∧ Hid (Below w2.heap.size w2 wr)) (fun _ v _ => n - (intOf v).toNat)
      case atStart => exact ⟨x + 1, s, _, _, _, by omega, by omega, by go_num, rfl, Lib.hid (by rw [tqTo_zero]; exact HS.out), by omega, Lib.hid (by rw [tqTo_zero]; exact HO3.out), HB3⟩
      case round =>
        obtain ⟨y, t, A5, c5, R5, hy, hxy, rfl, rfl, HT, ht, HO5, HB5⟩ := hrel
        have hsz5 := HB5.out.size
        by_cases hyn : y < n
        · have HG5 := Lib.hid (HG2.out.below HB5.out (Nat.le_refl _))
          have hc := HG5.out.row x hxn
          have hc2 := HG5.out.ent x y hxn hyn
          have hy0 : (0 : Int) ≤ (y : Int) := by omega
          have hy2 : (y : Int) < (n : Int) := by omega
          obtain ⟨z, hz⟩ : ∃ z, z = E x y := ⟨_, rfl⟩
          rw [← hz] at hc2
          by_cases hzy : (y : Int) < z
          rotate_left
          · have hd1 : decide ((y : Int) < z) = false := by simp; omega
            have HT' := Lib.hid (show (tqTo E n x (y + 1)).length = t by rw [tqTo_skip (by rw [← hz]; omega)]; exact HT.out)
            have HO' := Lib.hid (show OwnM wr w2.heap.size A5 c5 R5 (tqTo E n x (y + 1)) by rw [tqTo_skip (by rw [← hz]; omega)]; exact HO5.out)
            clear hz
            go_wp2
            go_roundw
            case rel => exact ⟨y + 1, t, A5, c5, R5, by omega, by omega, by go_num, rfl, HT', by omega, HO', HB5⟩
            case measure => simp [intOf]; omega
          · have hd1 : decide ((y : Int) < z) = true := by simp; omega
            have HSu := Lib.hid (show tqTo E n x (y + 1) = tqTo E n x y ++ [[(x : Int), (y : Int), z]] by rw [hz]; exact tqTo_take hxy (by rw [← hz]; exact hzy))
            have HI3 := OwnI.lit3 wr (x : Int) (y : Int) z (Nat.le_refl wr.heap.size)
            have HAp := Lib.hid (later_apart HO5.out HI3)
            have HX7 := Lib.hid ((HI3.lower (lo' := w2.heap.size) hsz5).alloc (.cells #[.slice (some ⟨wr.heap.size, 0, none⟩) 3 3] 50))
            have HE7 := Lib.hid ((HO5.out.alloc (.cells #[.int .i64 (x : Int), .int .i64 (y : Int), .int .i64 z] 2)).alloc (.cells #[.slice (some ⟨wr.heap.size, 0, none⟩) 3 3] 50))
            have HB7 := Lib.hid ((HB5.out.alloc hsz5 (.cells #[.int .i64 (x : Int), .int .i64 (y : Int), .int .i64 z] 2)).alloc (by simp; omega) (.cells #[.slice (some ⟨wr.heap.size, 0, none⟩) 3 3] 50))
            clear hz HI3
            go_wp2_with (at_builtin
                         refine wpM_append rfl _ _ rfl w2.heap.size _ _ _ R5 (tqTo E n x y) (some ⟨wr.heap.size, 0, none⟩) 3 3 [(x : Int), (y : Int), z] (wr.heap.size + 1) rfl (by simp [go_sem]) HT.out rfl HE7.out HX7.out HAp.out (by first | exact World.cell?_alloc_at _ _ _ _ rfl | simp) (by omega) (by simp; omega) ?_
                         intro A8 c8 R8 w8 ho8 hg8 ha8)
            have HB8 := Lib.hid (HB7.out.trans (below_blkM HE7.out hg8 (Nat.le_refl _) (by simp; omega)))
            have HO8 := Lib.hid (show OwnM w8 w2.heap.size A8 c8 R8 (tqTo E n x (y + 1)) from by rw [HSu.out]; exact ho8)
            have HT8 := Lib.hid (show (tqTo E n x (y + 1)).length = t + 1 from by rw [HSu.out, List.length_append, HT.out]; rfl)
            clear ho8 hg8 ha8 hc hc2
            go_wp2
            go_roundw
            case rel => exact ⟨y + 1, t + 1, A8, c8, R8, by omega, by omega, by go_num, rfl, HT8, by omega, HO8, HB8⟩
            case measure => simp [intOf]; omega
        · obtain rfl : y = n := by omega
          have HS9 := Lib.hid (show (tqRows E y (x + 1)).length = t from by rw [tqRows_succ]; exact HT.out)
          have HO9 := Lib.hid (show OwnM wr w2.heap.size A5 c5 R5 (tqRows E y (x + 1)) from by rw [tqRows_succ]; exact HO5.out)
          go_wp2
          go_roundw
          case rel => exact ⟨x + 1, t, A5, c5, R5, by omega, by go_num, rfl, HS9, by omega, HO9, HB5⟩
          case measure => simp [intOf]; omega
    · obtain rfl : x = n := by omega
      have hmem : ∀ k, k < s → (row (tqRows E x x) k).length = 3 := fun k hk => by
        rw [row_eq (by rw [HS.out]; exact hk)]
        exact tqRows_len (List.getElem_mem _)
      have HMk := sorted_c wr (x : Int) A' s c' R' (tqRows E x x) HO3.out.rd HS.out (by omega) (fun k hk => by rw [hmem k hk]; omega)
      rw [show mkP (x : Int) (tqRows E x x) = (x : Int) from if_pos (by rw [HS.out]; omega), show mkL (tqRows E x x) = sortLL (tqRows E x x) from if_pos (by rw [HS.out]; omega), show mkC (tqRows E x x) = 0 from if_pos (by rw [HS.out]; omega)] at HMk
      have HMk := Lib.hid HMk
      have hsz3 := HB3.out.size
      have HZ3 := Lib.hid (HZ2.out.step (lo := w2.heap.size) (by omega) HB3.out)
      clear hmem
      go_wp2_with fail
      refine (HMk.out).mono ?_
      rintro e w9 ⟨⟨A9, n9, c9, R9, rfl, hn9, ho9⟩, hb9⟩
      have HZ9 := Lib.hid (HZ3.out.step (lo := wr.heap.size) (by omega) hb9)
      have HB9 := Lib.hid (HBw.out.trans (hb9.mono HBw.out.size))
      have HO9 := Lib.hid (show OwnM w9 (w.heap.size + 1) A9 c9 R9 (sortLL (tqRows E x x)) from ho9.lower (by omega))
      have HN9 := Lib.hid hn9
      clear hb9 ho9 hn9
      generalize sortLL (tqRows E x x) = lst at *
      have rz := HZ9.out
      have z0 := rz.c0
      have z1 := rz.c1
      have y0 := rz.f0
      have y1 := rz.f1
      clear rz
      go_wp2
      obtain ⟨r0, r1⟩ := HZ9.out.read (.int .i64 (x : Int)) (.slice A9 n9 c9)
      refine bodyPost_ret (v := .tuple #[.agg #[.int .i64 (x : Int), .slice A9 n9 c9], .int .i64 0]) (by simp [results, Try.results22, go_sem, r0, r1]) rfl ⟨⟨A9, n9, c9, R9, rfl, HN9.out, own_set2 HO9.out (by omega) _ _⟩, below_set2 HB9.out (by omega)⟩
end Go.Proofs.Ytdcegepkgcflpaa
