/-
  Lists of lists in memory: l05Find and l05Put of the reference, slices.CompactFunc at slices.Equal, hasList of the program. Conditions: those of each theorem.
-/
import Derived.Test.YtmmkmkbpgcbehaaGreatPasL
import Derived.Test.YtmmkmkbpgcbehaaGreatIns2
import Derived.Lib.SliceRun
namespace Go.Proofs.YtmmkmkbpgcbehaaGreat
open Go.RowKit
set_option linter.unusedVariables false
set_option linter.unusedSimpArgs false

set_option maxHeartbeats 1000000 in
theorem equalQ_c (w : World) {A A' : Option Addr} {n n' c c' : Nat} {xs ys : List Int} (hx : RdI w A c xs) (hy : RdI w A' c' ys) (hn : xs.length = n) (hn' : ys.length = n') :
    Calls Tryz.prog 53 #[.slice A n c, .slice A' n' c'] w (EndQ (.bool (decide (xs = ys))) w) := by
  have hm : n ≤ 9223372036854775807 := by have h1 := hx.le; have h2 := hx.cap; unfold maxLen at h2; omega
  have hm' : n' ≤ 9223372036854775807 := by have h1 := hy.le; have h2 := hy.cap; unfold maxLen at h2; omega
  by_cases hl : n = n'
  · subst hl
    have HX := Lib.hid hx
    have HY := Lib.hid hy
    have HN := Lib.hid hn
    have HN' := Lib.hid hn'
    obtain ⟨T, hT⟩ : ∃ T, T = decide (xs = ys) := ⟨_, rfl⟩
    rw [← hT]
    have HT := Lib.hid (show T = decide (∀ k, k < xs.length → nth xs k = nth ys k) by rw [hT]; exact decide_eq_decide.2 (same_nth (hn.trans hn'.symm)).symm)
    clear hx hy hn hn' hT
    go_enter Tryz.func53, Tryz.ntmps53
    go_wp2
    go_loopw [13] (fun i wr => ∃ k : Nat, k ≤ n ∧ i = .int .i64 k ∧ Qt w wr ∧ Hid (∀ j, j < k → nth xs j = nth ys j)) (fun i _ => n - (intOf i).toNat)
    case atStart => exact ⟨0, Nat.zero_le _, rfl, Qt.refl w, fun j hj => absurd hj (by omega)⟩
    case round =>
      obtain ⟨k, hk, rfl, ⟨m, rfl⟩, HEq⟩ := hrel
      by_cases hlt : k < n
      · obtain ⟨b, off, e, hb, hc⟩ := HX.out.at_ k (by rw [HN.out]; exact hlt)
        obtain ⟨b', off', e', hb', hc'⟩ := HY.out.at_ k (by rw [HN'.out]; exact hlt)
        subst e e'
        have hk0 : (0 : Int) ≤ (k : Int) := by omega
        have hk1 : (k : Int) < (n : Int) := by omega
        by_cases hfg : nth xs k = nth ys k
        · have hne : (nth xs k != nth ys k) = false := by simp [hfg]
          have HE2 := Lib.hid (show ∀ j, j < k + 1 → nth xs j = nth ys j from fun j hj => by
            by_cases e : j = k
            · subst e; exact hfg
            · exact HEq.out j (by omega))
          clear hfg
          go_wp2
          go_quiet (fail)
          go_wp2
          go_roundw
          case rel => exact ⟨k + 1, by omega, by go_num, by first | exact qt2 _ _ _ | exact ⟨_, by rw [World.drewN_drewN]⟩ | exact ⟨_, rfl⟩, HE2⟩
          case measure => simp [intOf]; omega
        · have hne : (nth xs k != nth ys k) = true := by simp [hfg]
          have HF := Lib.hid (show T = false by rw [HT.out]; exact decide_eq_false fun h => hfg (h k (by rw [HN.out]; exact hlt)))
          clear hfg
          go_wp2
          go_quiet (fail)
          go_wp2
          go_ret
          exact ⟨ret_b HF.out.symm, by first | exact qt2 _ _ _ | exact ⟨_, by rw [World.drewN_drewN]⟩ | exact ⟨_, rfl⟩⟩
      · obtain rfl : k = n := by omega
        have HF := Lib.hid (show T = true by rw [HT.out]; exact decide_eq_true (by rw [HN.out]; exact HEq.out))
        go_wp2
        go_ret
        exact ⟨ret_b HF.out.symm, m, rfl⟩
  · have hd : ((n : Int) != (n' : Int)) = true := by rw [bne_iff_ne]; omega
    have hd2 : (n != n') = true := by rw [bne_iff_ne]; exact hl
    rw [decide_eq_false (fun e => hl (by rw [← hn, ← hn', e]))]
    clear hx hy hn hn'
    go_enter Tryz.func53, Tryz.ntmps53
    go_wp2
    go_ret
    exact ⟨rfl, 0, rfl⟩

set_option maxHeartbeats 4000000 in
theorem l05Find_c (w : World) (A : Option Addr) (n c : Nat) (R : Spine) (xss : List (List Int)) (hr : RdM w A c R xss) (hn : xss.length = n) (hs : StrictLL xss) (hz : n ≤ 1048576) (B : Option Addr) (m d : Nat) (p : List Int) (hp : RdI w B d p) (hm : p.length = m) :
    Calls Tryz.prog 27 #[.slice A n c, .slice B m d] w (EndQ (.tuple #[.int .i64 ((loI xss p : Nat) : Int), .bool (fdB xss p)]) w) := by
  obtain ⟨T, hT⟩ : ∃ T, T = loI xss p := ⟨_, rfl⟩
  obtain ⟨F, hF⟩ : ∃ F, F = fdB xss p := ⟨_, rfl⟩
  rw [← hT, ← hF]
  have HT := Lib.hid hT
  have HF := Lib.hid hF
  have HR := Lib.hid hr
  have HN := Lib.hid hn
  have HS := Lib.hid hs
  have HCm := Lib.hid (fun (q k : Nat) (hk : k < n) => CompareLists_c (w.drewN q) (R k).1 B (row xss k).length m (R k).2 d (row xss k) p ((hr.rows k (by omega)).drewN q) rfl (hp.drewN q) hm)
  clear hr hn hs hp hm hT hF
  go_enter Tryz.func27, Tryz.ntmps27
  go_wp2
  go_loopw [6, 7, 8, 9] (fun a b _ _ wr => ∃ lo hi : Nat, lo ≤ hi ∧ hi ≤ n ∧ a = .int .i64 lo ∧ b = .int .i64 hi ∧ Hid (∀ i, i < lo → cmpL (row xss i) p < 0) ∧ Hid (∀ i, hi ≤ i → i < n → 0 < cmpL (row xss i) p) ∧ Qt w wr) (fun a b _ _ _ => (intOf b).toNat - (intOf a).toNat)
  case atStart => exact ⟨0, n, Nat.zero_le _, Nat.le_refl _, rfl, rfl, Lib.hid fun i hi => absurd hi (by omega), Lib.hid fun i h1 h2 => absurd h1 (by omega), Qt.refl _⟩
  case round =>
    obtain ⟨lo, hi, hlh, hhn, rfl, rfl, HL, HH, ⟨q, rfl⟩⟩ := hrel
    by_cases hlt : lo < hi
    · obtain ⟨mid, hmid⟩ : ∃ mid, mid = (lo + hi) / 2 := ⟨_, rfl⟩
      have hm1 : lo ≤ mid := by omega
      have hm2 : mid < hi := by omega
      have ht1 : ((lo : Int) + (hi : Int)).tdiv 2 = (mid : Int) := by rw [Int.tdiv_eq_ediv_of_nonneg (by omega)]; omega
      have ht2 : ((lo : Int) + (hi : Int)) / 2 = (mid : Int) := by omega
      have hmn : mid < n := by omega
      have hmx : mid < xss.length := by rw [HN.out]; exact hmn
      obtain ⟨b, off, e, hb, hc⟩ := HR.out.at_ mid hmx
      subst e
      have hi0 : (0 : Int) ≤ (mid : Int) := by omega
      have hi1 : (mid : Int) < (n : Int) := by omega
      have hcm := HCm.out q mid hmn
      have hbd := cmpL_bd (row xss mid) p
      obtain ⟨v, hv⟩ : ∃ v, v = cmpL (row xss mid) p := ⟨_, rfl⟩
      rw [← hv] at hcm hbd
      have HV := Lib.hid hv
      have HC := Lib.hid hcm
      have HM := Lib.hid hmid
      obtain ⟨l, hl⟩ : ∃ l, l = (row xss mid).length := ⟨_, rfl⟩
      rw [← hl] at hc HC
      clear hcm hv hmid hl
      rcases (show v = 0 ∨ v = -1 ∨ v = 1 by omega) with rfl | rfl | rfl
      · have HE := Lib.hid (show T = mid ∧ F = true from by
          have e := cmpL_zero HV.out.symm
          rw [HT.out, HF.out, ← e]
          exact ⟨loI_at HS.out hmx, decide_eq_true (mem_row.2 ⟨mid, hmx, rfl⟩)⟩)
        go_wp2_with fail
        refine (HC.out).mono ?_
        rintro e w' ⟨rfl, q2, rfl⟩
        go_wp2
        refine bodyPost_ret (v := .tuple #[.int .i64 (mid : Int), .bool true]) (by simp [results, Tryz.results27, go_sem]) rfl ?_
        exact ⟨by rw [HE.out.1, HE.out.2], by first | exact qt2 _ _ _ | exact ⟨_, by rw [World.drewN_drewN]⟩ | exact ⟨_, rfl⟩⟩
      · have HL2 := Lib.hid (show ∀ i, i < mid + 1 → cmpL (row xss i) p < 0 from fun i hi => by
          have h1 := HV.out
          by_cases e : i = mid
          · subst e; omega
          · have h2 := HS.out.lt (show i < mid by omega) hmx
            have h3 := cmpL_trans (a := row xss i) (b := row xss mid) (c := p) (by omega) (by omega)
            have h4 : cmpL (row xss i) p ≠ 0 := fun h5 => by
              have e2 := cmpL_zero h5
              rw [e2] at h2
              have := cmpL_neg (row xss mid) p
              omega
            omega)
        go_wp2_with fail
        refine (HC.out).mono ?_
        rintro e w' ⟨rfl, q2, rfl⟩
        go_wp2
        go_roundw
        case rel => exact ⟨mid + 1, hi, by omega, hhn, by go_num, rfl, HL2, HH, by first | exact qt2 _ _ _ | exact ⟨_, by rw [World.drewN_drewN]⟩ | exact ⟨_, rfl⟩⟩
        case measure => simp [intOf] <;> omega
      · have HH2 := Lib.hid (show ∀ i, mid ≤ i → i < n → 0 < cmpL (row xss i) p from fun i h1 h2 => by
          have h0 := HV.out
          by_cases e : i = mid
          · subst e; omega
          · have h3 := HS.out.lt (show mid < i by omega) (show i < xss.length by rw [HN.out]; exact h2)
            have h4 := cmpL_neg (row xss i) p
            have h5 := cmpL_neg (row xss mid) p
            have h6 := cmpL_trans (a := p) (b := row xss mid) (c := row xss i) (by omega) (by omega)
            have h7 : cmpL (row xss i) p ≠ 0 := fun h8 => by
              have e2 := cmpL_zero h8
              rw [e2] at h3
              omega
            omega)
        go_wp2_with fail
        refine (HC.out).mono ?_
        rintro e w' ⟨rfl, q2, rfl⟩
        go_wp2
        go_roundw
        case rel => exact ⟨lo, mid, by omega, by omega, rfl, rfl, HL, HH2, by first | exact qt2 _ _ _ | exact ⟨_, by rw [World.drewN_drewN]⟩ | exact ⟨_, rfl⟩⟩
        case measure => simp [intOf] <;> omega
    · obtain rfl : lo = hi := by omega
      have HE := Lib.hid (show T = lo ∧ F = false from by
        rw [HT.out, HF.out]
        refine ⟨loI_eq (by rw [HN.out]; exact hhn) HL.out fun i h1 h2 => ?_, decide_eq_false fun hm => ?_⟩
        · have := HH.out i h1 (by rw [← HN.out]; exact h2); omega
        · obtain ⟨k, hk, e⟩ := mem_row.1 hm
          rcases Nat.lt_or_ge k lo with h1 | h1
          · have := HL.out k h1; rw [e, cmpL_self] at this; omega
          · have := HH.out k h1 (by rw [← HN.out]; exact hk); rw [e, cmpL_self] at this; omega)
      go_wp2
      refine bodyPost_ret (v := .tuple #[.int .i64 (lo : Int), .bool false]) (by simp [results, Tryz.results27, go_sem]) rfl ?_
      exact ⟨by rw [HE.out.1, HE.out.2], q, rfl⟩

theorem ownR_lower {w : World} {e : TypeId} {lo lo' n c : Nat} {A : Option Addr} {vals : List Value} (h : w.ownsRow lo e 1 (.slice A n c) n vals) (hl : lo' ≤ lo) : w.ownsRow lo' e 1 (.slice A n c) n vals := by
  refine ⟨h.1, ?_⟩
  rcases h.2 with h1 | ⟨g, cap, cur, e1, hg, r⟩
  · exact .inl h1
  · exact .inr ⟨g, cap, cur, e1, Nat.le_trans hl hg, r⟩

set_option maxRecDepth 100000 in
set_option maxHeartbeats 8000000 in
theorem l05Put_c (w : World) (lo g c n k m : Nat) (ds : List Row3) (x : Row3) (h : OwnD w lo (some ⟨g, 0, none⟩) c ds) (hlo : lo ≤ w.heap.size) (hn : ds.length = n) (hk : k ≤ n) (hz : n ≤ 1048576) (hx : OwnI w lo x.1 x.2.1 x.2.2) (hm : x.2.2.length = m) (hap : ∀ d ∈ ds, Apart d x) :
    Calls Tryz.prog 46 #[.slice (some ⟨g, 0, none⟩) n c, .int .i64 (k : Int), .slice x.1 m x.2.1] w fun e w' => (∃ g' c', e = .returned (.slice (some ⟨g', 0, none⟩) (n + 1) c') ∧ OwnD w' lo (some ⟨g', 0, none⟩) c' (ds.take k ++ ([x] ++ ds.drop k))) ∧ Below w.heap.size w w' := by
  obtain ⟨A5, c5, xs5⟩ := x
  dsimp only at hx hm
  have hgl := ownR_lt h.own
  obtain ⟨hg0, hg1, hLc, hcm⟩ := hgl
  unfold maxLen at hcm
  rw [hn] at hLc
  have hk0I : (0 : Int) ≤ (k : Int) := by omega
  have HLit := Lib.hid ((OwnD.lit0 w (Nat.le_refl w.heap.size)).own)
  have HOa := Lib.hid (ownR_keep (w' := w.alloc (.cells #[] 35)) h.own (fun g2 e => by injection e with e; injection e with e; subst e; exact Below.heap_alloc w _ g hg1))
  have HB2 := Lib.hid ((Below.refl w.heap.size w).alloc (Nat.le_refl _) (.cells #[] 35))
  have HNews := Lib.hid (show ∀ j u, ((ds.take k).map rv)[j]? = some u → (w.alloc (.cells #[] 35)).cell? ((⟨g, 0, none⟩ : Addr).add j) = some u from fun j u hj => by
    have hjk : j < (ds.take k).length := by
      rcases Nat.lt_or_ge j (ds.take k).length with h | h
      · exact h
      · rw [List.getElem?_eq_none (by simpa using h)] at hj; cases hj
    have hjk2 : j < k ∧ j < ds.length := by rw [List.length_take] at hjk; omega
    have hcl := World.ownsRow.cellAt HOa.out j (by omega)
    have hadd : (⟨g, 0, none⟩ : Addr).add j = ⟨g, 0 + j, none⟩ := by unfold Addr.add; split <;> simp_all
    rw [hadd, Nat.zero_add, hcl, ← hj]
    simp only [List.getElem?_map, List.getElem?_take]
    rw [if_pos hjk2.1])
  have HRw0 := Lib.hid h.rows
  have HApp := Lib.hid h.apart
  have HX0 := Lib.hid hx
  have HAp := Lib.hid hap
  have HDl := Lib.hid hn
  have HM := Lib.hid hm
  have hkc : k ≤ c := by omega
  clear h hx hap hn hm
  go_enter Tryz.func46, Tryz.ntmps46
  go_wp2_with (at_builtin; refine wpR_append rfl _ _ rfl w.heap.size w.heap.size 0 0 [] ⟨g, 0, none⟩ k c (ds.take k) rfl rfl HLit.out (by rw [List.length_take]; have := HDl.out; omega) HNews.out (by omega) (by simp) ?_; intro g3 c3 w3 ho3 hg3 ha3; refine stop_ ?_)
  have hge3 : w.heap.size ≤ g3 := by rcases ha3 with e | e <;> (try simp at e) <;> omega
  have hne3 : g ≠ g3 := by rcases ha3 with e | e <;> (try simp at e) <;> omega
  have HB3 := Lib.hid (HB2.out.trans (Below.of_grown hg3 (by simp) (fun g9 e9 => by injection e9 with e9; omega)))
  have HOb := Lib.hid (ownR_keep (w' := w3) HOa.out (fun g2 e => by injection e with e; injection e with e; subst e; exact hg3.block g (by simp; omega) (by intro e9; injection e9 with e9; omega)))
  have HRw3 := Lib.hid (show ∀ d ∈ ds, OwnI w3 lo d.1 d.2.1 d.2.2 from fun d hd => OwnI.other_type HLit.out hg3 ((HRw0.out d hd).alloc _))
  have HX3 := Lib.hid (OwnI.other_type HLit.out hg3 (HX0.out.alloc _))
  rw [Nat.zero_add, List.nil_append] at ho3
  have HN3 := Lib.hid ho3
  have hz3 := HB3.out.size
  have HO6 := Lib.hid (ownR_keep (w' := w3.alloc (.cells #[.slice A5 m c5] 35)) HOb.out (fun g2 e => Below.heap_alloc w3 _ g2 (by injection e with e; injection e with e; subst e; exact (ownR_lt HOb.out).2.1)))
  have HM6 := Lib.hid (ownR_keep (w' := w3.alloc (.cells #[.slice A5 m c5] 35)) HN3.out (fun g2 e => Below.heap_alloc w3 _ g2 (by injection e with e; injection e with e; subst e; exact (ownR_lt HN3.out).2.1)))
  have HB6 := Lib.hid (HB3.out.alloc hz3 (.cells #[.slice A5 m c5] 35))
  have hlg5 : g < w3.heap.size := (ownR_lt HOb.out).2.1
  have HNw := Lib.hid (show ∀ j u, ([((A5, c5, xs5) : Row3)].map rv)[j]? = some u → (w3.alloc (.cells #[.slice A5 m c5] 35)).cell? ((⟨w3.heap.size, 0, none⟩ : Addr).add j) = some u from by
    have := cell_one_new w3 (.slice A5 m c5) 35
    rw [← HM.out] at this ⊢
    exact this)
  clear ho3 hg3 ha3
  refine Lib.hid ?_
  go_wp2_with (at_builtin; refine wpR_append rfl _ _ rfl w.heap.size g3 c3 k _ ⟨w3.heap.size, 0, none⟩ 1 1 [(A5, c5, xs5)] rfl rfl HM6.out rfl HNw.out (by omega) (by simp; omega) ?_; intro g7 c7 w7 ho7 hg7 ha7; refine stop_ ?_)
  have hge7 : w.heap.size ≤ g7 := by rcases ha7 with e | e <;> (try simp at e) <;> omega
  have hne7 : g ≠ g7 := by rcases ha7 with e | e <;> (try simp at e) <;> omega
  have HB7 := Lib.hid (HB6.out.trans (Below.of_grown hg7 (by simp; omega) (fun g9 e9 => by injection e9 with e9; omega)))
  have HO7 := Lib.hid (ownR_keep (w' := w7) HO6.out (fun g2 e => by injection e with e; injection e with e; subst e; exact hg7.block g (by simp; omega) (by intro e9; injection e9 with e9; omega)))
  have HRw7 := Lib.hid (show ∀ d ∈ ds, OwnI w7 lo d.1 d.2.1 d.2.2 from fun d hd => OwnI.other_type HM6.out hg7 ((HRw3.out d hd).alloc _))
  have HX7 := Lib.hid (OwnI.other_type HM6.out hg7 (HX3.out.alloc _))
  have HN7 := Lib.hid ho7
  have hz7 := HB7.out.size
  have HFin := Lib.hid (fun (w9 : World) (g9 c9 : Nat) (ho9 : w9.ownsRow w.heap.size 35 1 (.slice (some ⟨g9, 0, none⟩) (n + 1) c9) (n + 1) ((ds.take k).map rv ++ [((A5, c5, xs5) : Row3)].map rv ++ (ds.drop k).map rv)) (hg9 : w7.grownBy w9 (some g7)) => (show OwnD w9 lo (some ⟨g9, 0, none⟩) c9 (ds.take k ++ ([(A5, c5, xs5)] ++ ds.drop k)) from by
    refine ⟨?_, fun d hd => ?_, apart_ins HApp.out HAp.out⟩
    · have e1 : (ds.take k ++ ([((A5, c5, xs5) : Row3)] ++ ds.drop k)).length = n + 1 := by simp; have := HDl.out; omega
      rw [e1]
      have := ownR_lower ho9 hlo
      simpa using this
    · rcases List.mem_append.1 hd with hd | hd
      · exact OwnI.other_type HN7.out hg9 (HRw7.out d (List.mem_of_mem_take hd))
      · rcases List.mem_append.1 hd with hd | hd
        · rw [List.mem_singleton] at hd; subst hd; exact OwnI.other_type HN7.out hg9 HX7.out
        · exact OwnI.other_type HN7.out hg9 (HRw7.out d (List.mem_of_mem_drop hd))))
  clear ho7 hg7 ha7
  refine Lib.hid ?_
  have hkn9 : (k : Int) ≤ (n : Int) := by omega
  have hkc9 : (k : Int) ≤ (c : Int) := by omega
  by_cases hck : c = k
  · have hLk : n = k := by omega
    have hd0 : ds.drop k = [] := List.drop_eq_nil_of_le (by have := HDl.out; omega)
    have HD0 := Lib.hid hd0
    subst hck
    subst hLk
    clear hd0
    have hnn0 : n - n = 0 := by omega
    go_wp2_with (at_builtin; refine wpR_append rfl _ _ rfl w.heap.size g7 c7 (n + 1) _ ⟨g, 0, none⟩ 0 0 [] rfl rfl HN7.out rfl (fun j u hj => by simp at hj) (by omega) (by omega) ?_; intro g9 c9 w9 ho9 hg9 ha9)
    have HB9 := Lib.hid (HB7.out.trans (Below.of_grown hg9 (by omega) (fun g8 e8 => by injection e8 with e8; omega)))
    have HF := Lib.hid (HFin.out w9 g9 c9 (by rw [HD0.out]; exact ho9) hg9)
    clear ho9 hg9 ha9
    go_wp2
    go_ret
    exact ⟨⟨g9, c9, rfl, HF.out⟩, HB9.out⟩
  · have hck2 : k < c := by omega
    have HNd := Lib.hid (show ∀ j u, ((ds.drop k).map rv)[j]? = some u → w7.cell? ((⟨g, k, none⟩ : Addr).add j) = some u from fun j u hj => by
      have hjk : j < (ds.drop k).length := by
        rcases Nat.lt_or_ge j (ds.drop k).length with h | h
        · exact h
        · rw [List.getElem?_eq_none (by simpa using h)] at hj; cases hj
      have hjd : k + j < ds.length := by rw [List.length_drop] at hjk; omega
      have hcl := World.ownsRow.cellAt HO7.out (k + j) (by omega)
      have hadd : (⟨g, k, none⟩ : Addr).add j = ⟨g, k + j, none⟩ := by unfold Addr.add; split <;> simp_all
      rw [hadd, hcl, ← hj]
      simp only [List.getElem?_map, List.getElem?_drop])
    have hkn1 : k + 1 + (n - k) = n + 1 := by omega
    clear hck
    go_wp2_with (at_builtin; refine wpR_append rfl _ _ rfl w.heap.size g7 c7 (k + 1) _ ⟨g, k, none⟩ (n - k) (c - k) (ds.drop k) rfl rfl HN7.out (by rw [List.length_drop, HDl.out]) HNd.out (by omega) (by omega) ?_; intro g9 c9 w9 ho9 hg9 ha9)
    have HB9 := Lib.hid (HB7.out.trans (Below.of_grown hg9 (by omega) (fun g8 e8 => by injection e8 with e8; omega)))
    have HF := Lib.hid (HFin.out w9 g9 c9 (by rw [← hkn1]; exact ho9) hg9)
    have HE := Lib.hid hkn1
    clear ho9 hg9 ha9 hkn1
    go_wp2
    go_ret
    exact ⟨⟨g9, c9, by first | rfl | rw [HE.out] | (congr 2; exact HE.out) | (rw [← HE.out]), HF.out⟩, HB9.out⟩
end Go.Proofs.YtmmkmkbpgcbehaaGreat
