/-
  Permutations of three points by their rank: UnrankPermutation(3, r) of the program, l04Unrank(3, r) of the reference. Conditions: those of each theorem.
-/
import Derived.Test.YtamklliaibfljaaUnr
import Derived.Test.YtamklliaibfljaaPairs
namespace Go.Proofs.Ytamklliaibfljaa
open Go.RowKit
set_option linter.unusedVariables false
set_option linter.unusedSimpArgs false

def facN : Nat → Nat
  | 0 => 1
  | n + 1 => facN n * (n + 1)
theorem facN_le {n : Nat} (h : n ≤ 3) : 1 ≤ facN n ∧ facN n ≤ 6 := by
  rcases (show n = 0 ∨ n = 1 ∨ n = 2 ∨ n = 3 by omega) with rfl | rfl | rfl | rfl <;> decide

set_option maxHeartbeats 4000000 in
theorem factorial_c (w : World) (n : Nat) (hn : n ≤ 3) : Calls Try.prog 78 #[.int .i64 (n : Int)] w fun e w' => e = .returned (.int .i64 ((facN n : Nat) : Int)) ∧ w = w' := by
  have HL := Lib.hid (fun k (h : k ≤ 3) => facN_le h)
  obtain ⟨T, hT⟩ : ∃ T, T = facN n := ⟨_, rfl⟩
  rw [← hT]
  have HT := Lib.hid hT
  clear hT
  go_enter Try.func78, Try.ntmps78
  go_wp2
  go_loop [3, 4] (fun u v => ∃ k f : Nat, 1 ≤ k ∧ (k ≤ n ∨ k = 1) ∧ v = .int .i64 ((k : Int) + 1) ∧ u = .int .i64 (f : Int) ∧ Hid (f = facN k)) (fun _ v => n + 2 - (intOf v).toNat)
  case atStart => exact ⟨1, 1, Nat.le_refl _, .inr rfl, rfl, rfl, Lib.hid rfl⟩
  case round =>
    obtain ⟨k, f, hk1, hk, rfl, rfl, HFk⟩ := hrel
    have hf := HL.out k (by omega)
    rw [← HFk.out] at hf
    by_cases hkn : k + 1 ≤ n
    · obtain ⟨t, ht⟩ : ∃ t, t = f * (k + 1) := ⟨_, rfl⟩
      have HFt := Lib.hid (show t = facN (k + 1) by rw [ht, HFk.out]; rfl)
      have htl := HL.out (k + 1) (by omega)
      rw [← HFt.out] at htl
      have hwe : (f : Int) * ((k : Int) + 1) = (t : Int) := by rw [ht, Int.natCast_mul, Int.natCast_add]; rfl
      have hw1 : IntKind.i64.wrap ((f : Int) * ((k : Int) + 1)) = (t : Int) := by rw [hwe]; exact IntWalk.i64_in _ (by omega)
      have hkn2 : (k : Int) + 1 ≤ (n : Int) := by omega
      clear ht
      go_wp2
      go_round
      case rel => exact ⟨k + 1, t, by omega, by omega, by go_num, rfl, HFt⟩
      case measure => simp [intOf] <;> omega
    · have hkn2 : ¬ (k : Int) + 1 ≤ (n : Int) := by omega
      have HE := Lib.hid (show f = T by
        rw [HFk.out, HT.out]
        rcases hk with h | h
        · rw [show k = n by omega]
        · subst h
          rcases (show n = 0 ∨ n = 1 by omega) with rfl | rfl <;> rfl)
      go_wp2
      go_ret
      exact ⟨by rw [HE.out]; rfl, rfl⟩

set_option maxHeartbeats 4000000 in
theorem l04Factorial_c (w : World) (n : Nat) (hn : n ≤ 3) : Calls Try.prog 74 #[.int .i64 (n : Int)] w fun e w' => e = .returned (.int .i64 ((facN n : Nat) : Int)) ∧ w = w' := by
  have HL := Lib.hid (fun k (h : k ≤ 3) => facN_le h)
  obtain ⟨T, hT⟩ : ∃ T, T = facN n := ⟨_, rfl⟩
  rw [← hT]
  have HT := Lib.hid hT
  clear hT
  go_enter Try.func74, Try.ntmps74
  go_wp2
  go_loop [3, 4] (fun u v => ∃ k f : Nat, 1 ≤ k ∧ (k ≤ n ∨ k = 1) ∧ v = .int .i64 ((k : Int) + 1) ∧ u = .int .i64 (f : Int) ∧ Hid (f = facN k)) (fun _ v => n + 2 - (intOf v).toNat)
  case atStart => exact ⟨1, 1, Nat.le_refl _, .inr rfl, rfl, rfl, Lib.hid rfl⟩
  case round =>
    obtain ⟨k, f, hk1, hk, rfl, rfl, HFk⟩ := hrel
    have hf := HL.out k (by omega)
    rw [← HFk.out] at hf
    by_cases hkn : k + 1 ≤ n
    · obtain ⟨t, ht⟩ : ∃ t, t = f * (k + 1) := ⟨_, rfl⟩
      have HFt := Lib.hid (show t = facN (k + 1) by rw [ht, HFk.out]; rfl)
      have htl := HL.out (k + 1) (by omega)
      rw [← HFt.out] at htl
      have hwe : (f : Int) * ((k : Int) + 1) = (t : Int) := by rw [ht, Int.natCast_mul, Int.natCast_add]; rfl
      have hw1 : IntKind.i64.wrap ((f : Int) * ((k : Int) + 1)) = (t : Int) := by rw [hwe]; exact IntWalk.i64_in _ (by omega)
      have hkn2 : (k : Int) + 1 ≤ (n : Int) := by omega
      clear ht
      go_wp2
      go_round
      case rel => exact ⟨k + 1, t, by omega, by omega, by go_num, rfl, HFt⟩
      case measure => simp [intOf] <;> omega
    · have hkn2 : ¬ (k : Int) + 1 ≤ (n : Int) := by omega
      have HE := Lib.hid (show f = T by
        rw [HFk.out, HT.out]
        rcases hk with h | h
        · rw [show k = n by omega]
        · subst h
          rcases (show n = 0 ∨ n = 1 by omega) with rfl | rfl <;> rfl)
      go_wp2
      go_ret
      exact ⟨by rw [HE.out]; rfl, rfl⟩

/-- What is left, what is out and the rank behind s steps. -/
def unS (r : Nat) : Nat → List Int × List Int × Nat
  | 0 => (idL 3, [], r)
  | s + 1 => let q := unS r s; let a := q.2.2 / facN (2 - s); (q.1.take a ++ q.1.drop (a + 1), q.2.1 ++ [nth q.1 a], q.2.2 % facN (2 - s))
def unL (r s : Nat) : List Int := (unS r s).1
def unO (r s : Nat) : List Int := (unS r s).2.1
def unR (r s : Nat) : Nat := (unS r s).2.2
def unA (r s : Nat) : Nat := unR r s / facN (2 - s)
theorem unL_succ (r s : Nat) : unL r (s + 1) = (unL r s).take (unA r s) ++ (unL r s).drop (unA r s + 1) := rfl
theorem unO_succ (r s : Nat) : unO r (s + 1) = unO r s ++ [nth (unL r s) (unA r s)] := rfl
theorem unR_succ (r s : Nat) : unR r (s + 1) = unR r s % facN (2 - s) := rfl
theorem un_facts : ∀ r, r < 6 → ∀ s, s < 4 → (unL r s).length = 3 - s ∧ (unO r s).length = s ∧ (s < 3 → unA r s < 3 - s) ∧ unR r s < 6 := by decide
theorem un_all : ∀ r, r < 6 → unO r 3 = un3 r := by decide

set_option maxHeartbeats 4000000 in
theorem l04One3_c (w : World) : Calls Try.prog 73 #[.int .i64 3] w (PostS w (idL 3)) := by
  have HI0 := Lib.hid (show OwnI (w.alloc (.cells #[] 2)) w.heap.size (some ⟨w.heap.size, 0, none⟩) 0 (idL 0) from OwnI.lit0 w (Nat.le_refl w.heap.size))
  have HIb := Lib.hid (below_boxed w (.cells #[] 2))
  go_enter Try.func73, Try.ntmps73
  go_wp2
  go_loopw [3, 4] (fun o v wr => ∃ (k : Nat) (A' : Option Addr) (c' : Nat), k ≤ 3 ∧ v = .int .i64 k ∧ o = .slice A' k c' ∧ Hid (OwnI wr w.heap.size A' c' (idL k)) ∧ Hid (Below w.heap.size w wr)) (fun _ v _ => 3 - (intOf v).toNat)
  case atStart => exact ⟨0, _, _, by omega, rfl, rfl, HI0, HIb⟩
  case round =>
    obtain ⟨k, A', c', hk, rfl, rfl, HO, HB⟩ := hrel
    have hsz := HB.out.size
    by_cases hk3 : k < 3
    · have hk1 : (k : Int) < 3 := by omega
      have HL := Lib.hid (idL_len k)
      go_wp2_with (at_builtin; refine wpI_append rfl _ _ rfl w.heap.size _ _ _ (idL k) ((k : Int)) wr.heap.size rfl rfl HL.out (HO.out.alloc (.cells #[.int .i64 ((k : Int))] 2)) (World.cell?_alloc_at _ _ _ _ rfl) (by omega) (by simp; omega) ?_; intro A3 c3 w3 ho3 hg3 ha3)
      have hB3 : Below w.heap.size w w3 := (HB.out.alloc HB.out.size (.cells #[.int .i64 ((k : Int))] 2)).trans (below_blk (HO.out.alloc (.cells #[.int .i64 ((k : Int))] 2)) hg3 (Nat.le_refl _) (by simp; omega))
      have HO3 := Lib.hid ho3
      have HB3 := Lib.hid hB3
      clear ho3 hg3 ha3 hB3
      have HO4 := Lib.hid (show OwnI w3 w.heap.size A3 c3 (idL (k + 1)) from by have e : idL (k + 1) = idL k ++ [(k : Int)] := by { simp [idL, List.range_succ] }; rw [e]; exact HO3.out)
      go_wp2
      go_roundw
      case rel => exact ⟨k + 1, A3, c3, by omega, by go_num, rfl, HO4, HB3⟩
      case measure => simp [intOf] <;> omega
    · obtain rfl : k = 3 := by omega
      go_wp2
      go_ret
      exact ⟨⟨_, _, _, rfl, idL_len 3, HO.out⟩, HB.out⟩

set_option maxHeartbeats 8000000 in
set_option maxRecDepth 10000 in
theorem l04Unrank3_c (w : World) (r : Nat) (hr : r < 6) : Calls Try.prog 47 #[.int .i64 3, .int .i64 (r : Int)] w (PostS w (un3 r)) := by
  have HF := Lib.hid (fun s (hs : s < 4) => un_facts r hr s hs)
  have HOn := Lib.hid (l04One3_c w)
  have HFa := Lib.hid (fun W n (hn : n ≤ 3) => l04Factorial_c W n hn)
  have HAll := Lib.hid (un_all r hr)
  go_enter Try.func47, Try.ntmps47
  go_wp2_with fail
  refine (HOn.out).mono ?_
  rintro e w1 ⟨⟨A1, n1, c1, rfl, hn1, ho1⟩, hb1⟩
  obtain rfl : n1 = 3 := by rw [← hn1]; exact idL_len 3
  have HL0 := Lib.hid (show OwnI (w1.alloc (.cells #[] 2)) w.heap.size A1 c1 (unL r 0) from ho1.alloc _)
  have HO0 := Lib.hid (show OwnI (w1.alloc (.cells #[] 2)) w.heap.size (some ⟨w1.heap.size, 0, none⟩) 0 (unO r 0) from OwnI.lit0 w1 hb1.size)
  have HB0 := Lib.hid (hb1.alloc hb1.size (.cells #[] 2))
  have HA0 := Lib.hid (show ∀ g, A1 = some ⟨g, 0, none⟩ → (some ⟨w1.heap.size, 0, none⟩ : Option Addr) ≠ some ⟨g, 0, none⟩ from fun g e e2 => by
    have := (ho1.lt e).2
    injection e2 with e2; injection e2 with e2; omega)
  clear hn1 ho1 hb1
  go_wp2
  go_loopw [1, 5, 6] (fun v l o wr => ∃ (s m : Nat) (A5 A6 : Option Addr) (c5 c6 : Nat), s + m = 3 ∧ v = .int .i64 ((unR r s : Nat) : Int) ∧ l = .slice A5 m c5 ∧ o = .slice A6 s c6 ∧ Hid (OwnI wr w.heap.size A5 c5 (unL r s)) ∧ Hid (OwnI wr w.heap.size A6 c6 (unO r s)) ∧ Hid (∀ g, A5 = some ⟨g, 0, none⟩ → A6 ≠ some ⟨g, 0, none⟩) ∧ Hid (Below w.heap.size w wr)) (fun _ l _ _ => (match l with | .slice _ m _ => m | _ => 0))
  case atStart => exact ⟨0, 3, _, _, _, _, rfl, rfl, rfl, rfl, HL0, HO0, HA0, HB0⟩
  case round =>
    obtain ⟨s, m, A5, A6, c5, c6, hsm, rfl, rfl, rfl, HL, HO, HAp, HB⟩ := hrel
    have hsz := HB.out.size
    obtain ⟨hf1, hf2, hf3, hf4⟩ := HF.out s (by omega)
    by_cases hm0 : 0 < m
    · obtain ⟨m1, rfl⟩ : ∃ m1, m = m1 + 1 := ⟨m - 1, by omega⟩
      have hf1' : (unL r s).length = m1 + 1 := by omega
      have hfm := facN_le (n := m1) (by omega)
      have hq : unA r s = unR r s / facN m1 := by unfold unA; rw [show 2 - s = m1 by omega]
      have hrm : unR r (s + 1) = unR r s % facN m1 := by rw [unR_succ, show 2 - s = m1 by omega]
      have ha3 := hf3 (by omega)
      have HSl := Lib.hid (unL_succ r s)
      have HSo := Lib.hid (unO_succ r s)
      have HFm := Lib.hid (fun W => HFa.out W m1 (by omega))
      obtain ⟨f, hfd⟩ : ∃ f, f = facN m1 := ⟨_, rfl⟩
      rw [← hfd] at hfm hq hrm HFm
      obtain ⟨u, hu⟩ : ∃ u, u = unR r s := ⟨_, rfl⟩
      obtain ⟨v, hv⟩ : ∃ v, v = unR r (s + 1) := ⟨_, rfl⟩
      obtain ⟨a, ha⟩ : ∃ a, a = unA r s := ⟨_, rfl⟩
      rw [← hu] at hq hrm hf4 ⊢
      rw [← hv] at hrm
      rw [← ha] at hq ha3 HSl HSo
      have HV := Lib.hid hv
      have ht1 : (u : Int).tdiv (f : Int) = (a : Int) := by rw [hq, Int.natCast_ediv]; exact Int.tdiv_eq_ediv_of_nonneg (by omega)
      have ht2 : (u : Int) / (f : Int) = (a : Int) := by rw [hq, Int.natCast_ediv]
      have ht3 : (u : Int).tmod (f : Int) = (v : Int) := by rw [hrm, Int.natCast_emod]; exact Int.tmod_eq_emod_of_nonneg (by omega)
      have ht4 : (u : Int) % (f : Int) = (v : Int) := by rw [hrm, Int.natCast_emod]
      have hfz : ((f : Int) == 0) = false := by simp; omega
      have hfn : (f : Int) ≠ 0 := by omega
      have ha1 : a < m1 + 1 := by omega
      have hu6 : u ≤ 6 := by omega
      obtain ⟨g, rfl, hg1, hg2, hcx, _⟩ := HL.out.at_ (k := a) (by omega)
      have HLn := Lib.hid hf1'
      have HOn2 := Lib.hid hf2
      obtain ⟨x, hx⟩ : ∃ x, x = nth (unL r s) a := ⟨_, rfl⟩
      rw [← hx] at hcx HSo
      have hm1p : (0 : Int) < ((m1 + 1 : Nat) : Int) := by omega
      have hwm : IntKind.i64.wrap (((m1 + 1 : Nat) : Int) - 1) = (m1 : Int) := by rw [show ((m1 + 1 : Nat) : Int) - 1 = (m1 : Int) by omega]; exact IntWalk.i64_in _ (by omega)
      have ha0 : (0 : Int) ≤ (a : Int) := by omega
      have haM : (a : Int) < ((m1 + 1 : Nat) : Int) := by omega
      have hcm : m1 + 1 ≤ c5 := by have := HL.out.rd.le; omega
      clear hfd hu hv ha hq hrm hf1 hf2 hf3 hx hfm hf1'
      go_wp2_with fail
      refine (HFm.out _).mono ?_
      rintro e w' ⟨rfl, rfl⟩
      have hcx2 : (wr.alloc (.cells #[.int .i64 x] 2)).cell? ⟨g, a, none⟩ = some (.int .i64 x) := by rw [← hcx]; exact Below.cell ((Below.refl wr.heap.size wr).alloc (Nat.le_refl _) _) hg2
      have HOa := Lib.hid (HO.out.alloc (.cells #[.int .i64 x] 2))
      go_wp2_with (at_builtin; refine wpI_append rfl _ _ rfl w.heap.size _ _ _ (unO r s) x wr.heap.size rfl rfl HOn2.out HOa.out (World.cell?_alloc_at _ _ _ _ rfl) (by omega) (by simp; omega) ?_; intro A7 c7 w7 ho7 hg7 ha7)
      have HB7 := Lib.hid (show Below w.heap.size w w7 from (HB.out.alloc hsz (.cells #[.int .i64 x] 2)).trans (below_blk HOa.out hg7 (Nat.le_refl _) (by simp; omega)))
      have HO7 := Lib.hid (show OwnI w7 w.heap.size A7 c7 (unO r (s + 1)) from by rw [HSo.out]; exact ho7)
      have HL7 := Lib.hid (show OwnI w7 w.heap.size (some ⟨g, 0, none⟩) c5 (unL r s) from (HL.out.alloc (.cells #[.int .i64 x] 2)).grown hg7 (fun g' e h => by
        have h9 := HAp.out g' e
        rcases A6 with _ | ⟨b6, o6, p6⟩
        · simp [blk] at h
        · obtain ⟨g8, e8, _⟩ : ∃ g8, (some ⟨b6, o6, p6⟩ : Option Addr) = some ⟨g8, 0, none⟩ ∧ True := by
            rcases HO.out.form with ⟨e1, _⟩ | ⟨g8, e1, _⟩
            · cases e1
            · exact ⟨g8, e1, trivial⟩
          rw [e8, blk_some] at h
          injection h with h
          subst h
          exact h9 e8))
      have hsz7 := HB7.out.size
      have HTk := Lib.hid (HL7.out.rd.takeU a)
      have HTl := Lib.hid (show ((unL r s).take a).length = a by rw [List.length_take, HLn.out]; omega)
      have HOw := Lib.hid (l00Own_c w7 (some ⟨g, 0, none⟩) a c5 ((unL r s).take a) HTk.out HTl.out (fun e => nomatch e) (by omega))
      have hac : a ≤ c5 := by omega
      have hcx7 := HL7.out
      clear ho7 hg7 ha7 hcx hcx2
      go_wp2_with fail
      refine (HOw.out).mono ?_
      rintro e w8 ⟨⟨A8, n8, c8, rfl, hn8, ho8⟩, hb8⟩
      obtain rfl : a = n8 := HTl.out.symm.trans hn8
      have HL8 := Lib.hid (HL7.out.below hb8)
      have HO8 := Lib.hid (HO7.out.below hb8)
      have HB8 := Lib.hid (HB7.out.trans (hb8.mono hsz7))
      have hsz8 := hb8.size
      have HR8 := Lib.hid ho8
      have HN8 := Lib.hid hn8
      have hwa : IntKind.i64.wrap ((a : Int) + 1) = (a : Int) + 1 := IntWalk.i64_in _ (by omega)
      clear hb8 ho8 hn8 hcx7
      by_cases hcap : c5 = a + 1
      · have HNil := Lib.hid (show RdI w8 (some ⟨g, 0, none⟩) 0 [] from ⟨Nat.le_refl _, by simp, fun _ h => absurd h (by simp)⟩)
        have hdr : (unL r s).drop (a + 1) = [] := List.drop_eq_nil_of_le (by rw [HLn.out]; omega)
        have HSl2 := Lib.hid (show unL r (s + 1) = (unL r s).take a by rw [HSl.out, hdr, List.append_nil])
        obtain rfl : m1 = a := by omega
        subst hcap
        clear hdr
        go_wp2_with (at_builtin; refine wpI_appendL rfl _ _ rfl w7.heap.size _ _ _ ((unL r s).take m1) _ _ _ [] rfl rfl HN8.out rfl HR8.out HNil.out (fun h => by cases h) (by omega) (by omega) ?_; intro A9 c9 w9 ho9 hg9 ha9)
        have HB9 := Lib.hid (HB8.out.trans ((below_blk HR8.out hg9 (Nat.le_refl _) hsz8).mono hsz7))
        have HL9 := Lib.hid (show OwnI w9 w.heap.size A9 c9 (unL r (s + 1)) by rw [HSl2.out]; rw [List.append_nil] at ho9; exact ho9.lower hsz7)
        have HO9 := Lib.hid (show OwnI w9 w.heap.size A7 c7 (unO r (s + 1)) from HO8.out.grown hg9 (fun g' e h => by
          have h1 := (HO7.out.lt e).2
          have h2 := HR8.out.blk_geU g' h
          omega))
        have HA9 := Lib.hid (show ∀ g, A9 = some ⟨g, 0, none⟩ → A7 ≠ some ⟨g, 0, none⟩ from fun g' e e2 => by
          have h1 := (HO7.out.lt e2).2
          rcases ha9 with h | h
          · rw [e, blk_some] at h
            have h2 := HR8.out.blk_geU g' h.symm
            omega
          · rw [e, blk_some] at h
            injection h with h
            omega)
        clear ho9 hg9 ha9
        go_wp2
        go_roundw
        case rel => first | exact ⟨s + 1, m1, A9, A7, c9, c7, by omega, by rw [HV.out], rfl, rfl, HL9, HO9, HA9, HB9⟩ | exact ⟨s + 1, m1, A9, A7, c9, c7, by omega, by rw [HV.out], by simp, rfl, HL9, HO9, HA9, HB9⟩ | ((repeat apply Exists.intro); exact ⟨⟨s + 1, m1, A9, A7, c9, c7, by omega, by rw [HV.out], by simp, rfl, HL9, HO9, HA9, HB9⟩, rfl⟩)
        case measure => simp <;> omega
      · have hcap2 : a + 1 < c5 := by omega
        have HRd2 := Lib.hid (show RdI w8 (some ⟨g, a + 1, none⟩) (c5 - (a + 1)) ((unL r s).drop (a + 1)) by have := HL8.out.rd.drop (a + 1); rwa [Nat.zero_add] at this)
        have HLd := Lib.hid (show ((unL r s).drop (a + 1)).length = m1 + 1 - (a + 1) by rw [List.length_drop, HLn.out])
        have hl1 : a + (m1 + 1 - (a + 1)) = m1 := by omega
        have hl2 : a + (m1 - a) = m1 := by omega
        go_wp2_with (at_builtin; refine wpI_appendL rfl _ _ rfl w7.heap.size _ _ _ ((unL r s).take a) _ _ _ ((unL r s).drop (a + 1)) rfl rfl HN8.out (by first | exact HLd.out | (rw [HLd.out]; omega)) HR8.out HRd2.out (fun h => by cases h) (by omega) (by omega) ?_; intro A9 c9 w9 ho9 hg9 ha9; try simp only [hl1, hl2])
        have HB9 := Lib.hid (HB8.out.trans ((below_blk HR8.out hg9 (Nat.le_refl _) hsz8).mono hsz7))
        have HL9 := Lib.hid (show OwnI w9 w.heap.size A9 c9 (unL r (s + 1)) by rw [HSl.out]; exact ho9.lower hsz7)
        have HO9 := Lib.hid (show OwnI w9 w.heap.size A7 c7 (unO r (s + 1)) from HO8.out.grown hg9 (fun g' e h => by
          have h1 := (HO7.out.lt e).2
          have h2 := HR8.out.blk_geU g' h
          omega))
        have HA9 := Lib.hid (show ∀ g, A9 = some ⟨g, 0, none⟩ → A7 ≠ some ⟨g, 0, none⟩ from fun g' e e2 => by
          have h1 := (HO7.out.lt e2).2
          rcases ha9 with h | h
          · rw [e, blk_some] at h
            have h2 := HR8.out.blk_geU g' h.symm
            omega
          · rw [e, blk_some] at h
            injection h with h
            omega)
        clear ho9 hg9 ha9
        go_wp2
        go_roundw
        case rel => first | exact ⟨s + 1, m1, A9, A7, c9, c7, by omega, by rw [HV.out], rfl, rfl, HL9, HO9, HA9, HB9⟩ | exact ⟨s + 1, m1, A9, A7, c9, c7, by omega, by rw [HV.out], by congr 1, rfl, HL9, HO9, HA9, HB9⟩
        case measure => simp <;> omega
    · obtain rfl : m = 0 := by omega
      obtain rfl : s = 3 := by omega
      have HF3 := Lib.hid (show OwnI wr w.heap.size A6 c6 (un3 r) from by rw [← HAll.out]; exact HO.out)
      have HN3 := Lib.hid (show (un3 r).length = 3 from by rw [← HAll.out]; exact hf2)
      clear hf1 hf2 hf3 hf4
      go_wp2
      go_ret
      exact ⟨⟨_, _, _, rfl, HN3.out, HF3.out⟩, HB.out⟩
end Go.Proofs.Ytamklliaibfljaa
