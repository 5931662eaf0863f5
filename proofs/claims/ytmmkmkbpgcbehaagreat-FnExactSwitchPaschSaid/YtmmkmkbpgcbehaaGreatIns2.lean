/-
  l10Sort of the reference: the walk. Conditions: those of each theorem.
-/
import Derived.Test.YtmmkmkbpgcbehaaGreatIns
namespace Go.Proofs.YtmmkmkbpgcbehaaGreat
open Go.RowKit
set_option linter.unusedVariables false
set_option linter.unusedSimpArgs false

set_option maxRecDepth 100000 in
set_option maxHeartbeats 8000000 in
theorem l10Sort_c (w : World) (A : Option Addr) (n c0 : Nat) (R : Spine) (xss : List (List Int)) (hr : RdM w A c0 R xss) (hn : xss.length = n) (hcap : NilCap R n) (hz : n ≤ 1048576) (hz2 : ∀ k, k < n → (row xss k).length ≤ 1048576) :
    Calls Tryz.prog 32 #[.slice A n c0] w (PostM w (sortLL xss)) := by
  have HR := Lib.hid hr
  have HN := Lib.hid hn
  have HCap := Lib.hid hcap
  have HZ := Lib.hid hz2
  have HD0 := Lib.hid (OwnD.lit0 w (Nat.le_refl w.heap.size))
  have HB0 := Lib.hid ((Below.refl w.heap.size w).alloc (Nat.le_refl _) (.cells #[] 35))
  clear hr hn hcap hz2
  go_enter Tryz.func32, Tryz.ntmps32
  go_wp2
  go_loopw [3, 4] (fun o v wr => ∃ (i g c : Nat) (ds : List Row3), i ≤ n ∧ v = .int .i64 i ∧ o = .slice (some ⟨g, 0, none⟩) i c ∧ Hid (ds.length = i) ∧ Hid (cont ds = sortLL (xss.take i)) ∧ Hid (OwnD wr w.heap.size (some ⟨g, 0, none⟩) c ds) ∧ Hid (Below w.heap.size w wr)) (fun _ v _ => n - (intOf v).toNat)
  case atStart => exact ⟨0, _, _, [], Nat.zero_le _, rfl, rfl, Lib.hid rfl, Lib.hid (by simp [cont, sortLL]), HD0, HB0⟩
  case round =>
    obtain ⟨i, g, c, ds, hi, rfl, rfl, HDl, HC, HO, HB⟩ := hrel
    by_cases hin : i < n
    · have hix : i < xss.length := by rw [HN.out]; exact hin
      obtain ⟨b, off, e, hb, hc⟩ := HR.out.at_ i hix
      subst e
      have HCc := Lib.hid hc
      obtain ⟨wo, hwo⟩ : ∃ wo : World, wo = wr := ⟨_, rfl⟩
      subst hwo
      clear hc
      go_wp2
      go_loopw [5] (fun v wr => ∃ k : Nat, k ≤ i ∧ v = .int .i64 k ∧ Hid (∀ j, k ≤ j → j < ds.length → 0 < cmpL (row (cont ds) j) (row xss i)) ∧ Qt wo wr) (fun v _ => (intOf v).toNat)
      case atStart => exact ⟨i, Nat.le_refl _, rfl, Lib.hid (fun j h1 h2 => by have := HDl.out; omega), Qt.refl _⟩
      case round =>
        obtain ⟨k, hki, rfl, HGt, ⟨m, rfl⟩⟩ := hrel
        have hkL : k ≤ ds.length := by have := HDl.out; omega
        by_cases hk0 : k = 0
        · have hdk : 0 < k → cmpL (row (cont ds) (k - 1)) (row xss i) ≤ 0 := fun h => absurd h (by omega)
          have hkd : decide (0 < (k : Int)) = false := by simp; omega
          have hkd2 : decide (0 < k) = false := by simp; omega
          clear hk0
          go_wp2
          go_quiet (fail)
          have HO1 := Lib.hid (show OwnD (wo.drewN (m + nq)) w.heap.size (some ⟨g, 0, none⟩) c ds from ⟨HO.out.own, HO.out.rows, HO.out.apart⟩)
          have HB1 := Lib.hid (below_drewN HB.out (m + nq))
          (try rw [World.drewN_drewN])
          generalize wo.drewN (m + nq) = w1 at *
          have HDk := Lib.hid hdk
          have HSt := Lib.hid (show cont (ds.take k ++ ([((none : Option Addr), 0, row xss i)] ++ ds.drop k)) = sortLL (xss.take (i + 1)) from by
            rw [← ins_next hix (k := k) (by rw [← HC.out]; simpa [cont] using hkL) (by rw [← HC.out]; exact HDk.out) (by rw [← HC.out]; exact fun j h1 h2 => HGt.out j h1 (by simpa [cont] using h2))]
            rw [← HC.out]
            simp [cont, List.map_take, List.map_drop])
          have hgl := ownR_lt HO1.out.own
          obtain ⟨hg0, hg1, hLc, hcm⟩ := hgl
          unfold maxLen at hcm
          have hLn : ds.length ≤ n := by have := congrArg List.length HC.out; rw [sortLL_len] at this; simp [cont] at this; omega
          have hz1 := HB1.out.size
          have hk0I : (0 : Int) ≤ (k : Int) := by omega
          have hiI0 : (0 : Int) ≤ (i : Int) := by omega
          have hiI1 : (i : Int) < (n : Int) := by omega
          have HL := Lib.hid (show i = ds.length from HDl.out.symm)
          have HLit := Lib.hid ((OwnD.lit0 w1 hz1).own)
          have HOa := Lib.hid (ownR_keep (w' := w1.alloc (.cells #[] 35)) HO1.out.own (fun g2 e => by injection e with e; injection e with e; subst e; exact Below.heap_alloc w1 _ g hg1))
          have HB2 := Lib.hid (HB1.out.alloc hz1 (.cells #[] 35))
          have hs2 : (w1.alloc (.cells #[] 35)).heap.size = w1.heap.size + 1 := by simp
          have HNews := Lib.hid (show ∀ j u, ((ds.take k).map rv)[j]? = some u → (w1.alloc (.cells #[] 35)).cell? ((⟨g, 0, none⟩ : Addr).add j) = some u from fun j u hj => by
            have hjk : j < (ds.take k).length := by
              rcases Nat.lt_or_ge j (ds.take k).length with h | h
              · exact h
              · rw [List.getElem?_eq_none (by simpa using h)] at hj; cases hj
            have hjk2 : j < k ∧ j < ds.length := by rw [List.length_take] at hjk; omega
            have hcl := World.ownsRow.cellAt HOa.out j (by omega)
            have hadd : (⟨g, 0, none⟩ : Addr).add j = ⟨g, 0 + j, none⟩ := by unfold Addr.add; split <;> simp_all
            rw [hadd, Nat.zero_add, hcl, ← hj]
            simp only [List.getElem?_map, List.getElem?_take]
            rw [if_pos hjk2.1])
          rw [HDl.out] at hkL hLc hLn
          have hkc : k ≤ c := by omega
          go_wp2_with (at_builtin
                       refine wpR_append rfl _ _ rfl w.heap.size w1.heap.size 0 0 [] ⟨g, 0, none⟩ k c (ds.take k) rfl rfl HLit.out (by rw [List.length_take]; have := HL.out; omega) HNews.out (by omega) (by simp; omega) ?_
                       intro g3 c3 w3 ho3 hg3 ha3
                       refine stop_ ?_)
          have hge3 : w.heap.size ≤ g3 := by rcases ha3 with e | e <;> (try simp at e) <;> omega
          have hne3 : g ≠ g3 := by rcases ha3 with e | e <;> (try simp at e) <;> omega
          have HB3 := Lib.hid (HB2.out.trans (Below.of_grown hg3 (by simp; omega) (fun g9 e9 => by injection e9 with e9; omega)))
          have HOb := Lib.hid (ownR_keep (w' := w3) HOa.out (fun g2 e => by injection e with e; injection e with e; subst e; exact hg3.block g (by simp; omega) (by intro e9; injection e9 with e9; omega)))
          have HRw3 := Lib.hid (show ∀ d ∈ ds, OwnI w3 w.heap.size d.1 d.2.1 d.2.2 from fun d hd => OwnI.other_type HLit.out hg3 ((HO1.out.rows d hd).alloc _))
          rw [Nat.zero_add, List.nil_append] at ho3
          have HN3 := Lib.hid ho3
          have hz3 := HB3.out.size
          have hc3 := (HB3.out.cell (p := ⟨b, off + i, none⟩) hb).trans HCc.out
          have HOw := Lib.hid (l00Own_c w3 (R i).1 (row xss i).length (R i).2 (row xss i) ((HR.out.below HB3.out).rows i hix) rfl (HCap.out i hin) (HZ.out i hin))
          clear ho3 hg3 ha3
          refine Lib.hid ?_
          go_wp2_with fail
          refine (HOw.out).mono ?_
          rintro e w5 ⟨⟨A5, n5, c5, rfl, hn5, ho5⟩, hb5⟩
          have HB5 := Lib.hid (HB3.out.trans (hb5.mono hz3))
          have hz5 := HB5.out.size
          have HX5 := Lib.hid ho5
          have HN5 := Lib.hid hn5
          have HO5 := Lib.hid (ownR_keep (w' := w5) HOb.out (fun g2 e => hb5.block g2 (by injection e with e; injection e with e; subst e; exact (ownR_lt HOb.out).2.1)))
          have HM5 := Lib.hid (ownR_keep (w' := w5) HN3.out (fun g2 e => hb5.block g2 (by injection e with e; injection e with e; subst e; exact (ownR_lt HN3.out).2.1)))
          have HRw5 := Lib.hid (show ∀ d ∈ ds, OwnI w5 w.heap.size d.1 d.2.1 d.2.2 from fun d hd => (HRw3.out d hd).below hb5)
          have hs35 := hb5.size
          have HAp := Lib.hid (show ∀ d ∈ ds, Apart d (A5, c5, row xss i) from fun d hd g9 e1 e2 => by
            have a1 := ((HRw3.out d hd).lt e1).2
            have a2 := (ho5.lt e2).1
            omega)
          have HO6 := Lib.hid (ownR_keep (w' := w5.alloc (.cells #[.slice A5 n5 c5] 35)) HO5.out (fun g2 e => Below.heap_alloc w5 _ g2 (by injection e with e; injection e with e; subst e; exact (ownR_lt HO5.out).2.1)))
          have HM6 := Lib.hid (ownR_keep (w' := w5.alloc (.cells #[.slice A5 n5 c5] 35)) HM5.out (fun g2 e => Below.heap_alloc w5 _ g2 (by injection e with e; injection e with e; subst e; exact (ownR_lt HM5.out).2.1)))
          have HB6 := Lib.hid (HB5.out.alloc hz5 (.cells #[.slice A5 n5 c5] 35))
          have hlg5 : g < w5.heap.size := (ownR_lt HO5.out).2.1
          have HNw := Lib.hid (show ∀ j u, ([((A5, c5, row xss i) : Row3)].map rv)[j]? = some u → (w5.alloc (.cells #[.slice A5 n5 c5] 35)).cell? ((⟨w5.heap.size, 0, none⟩ : Addr).add j) = some u from by
            have := cell_one_new w5 (.slice A5 n5 c5) 35
            rw [← HN5.out] at this ⊢
            exact this)
          clear hn5 ho5 hb5 hc3
          go_wp2_with (at_builtin
                       refine wpR_append rfl _ _ rfl w.heap.size g3 c3 k _ ⟨w5.heap.size, 0, none⟩ 1 1 [(A5, c5, row xss i)] rfl rfl HM6.out rfl HNw.out (by omega) (by simp; omega) ?_
                       intro g7 c7 w7 ho7 hg7 ha7
                       refine stop_ ?_)
          have hge7 : w.heap.size ≤ g7 := by rcases ha7 with e | e <;> (try simp at e) <;> omega
          have hne7 : g ≠ g7 := by rcases ha7 with e | e <;> (try simp at e) <;> omega
          have HB7 := Lib.hid (HB6.out.trans (Below.of_grown hg7 (by simp; omega) (fun g9 e9 => by injection e9 with e9; omega)))
          have HO7 := Lib.hid (ownR_keep (w' := w7) HO6.out (fun g2 e => by injection e with e; injection e with e; subst e; exact hg7.block g (by simp; omega) (by intro e9; injection e9 with e9; omega)))
          have HRw7 := Lib.hid (show ∀ d ∈ ds, OwnI w7 w.heap.size d.1 d.2.1 d.2.2 from fun d hd => OwnI.other_type HM6.out hg7 ((HRw5.out d hd).alloc _))
          have HX7 := Lib.hid (OwnI.other_type HM6.out hg7 ((HX5.out.lower (lo' := w.heap.size) hz3).alloc _))
          have HN7 := Lib.hid ho7
          have hz7 := HB7.out.size
          have hL1 : (k + 1) + (i - k) = i + 1 := by have h1 := congrArg List.length HSt.out; rw [sortLL_len] at h1; simp [cont] at h1; have h2 := HL.out; omega
          clear ho7 hg7 ha7
          refine Lib.hid ?_
          by_cases hck : c = k
          · have hLk : i = k := by omega
            have hd0 : ds.drop k = [] := List.drop_eq_nil_of_le (by have := HL.out; omega)
            have hlk0 : i - k = 0 := by omega
            have hck0 : c - k = 0 := by omega
            have hkL9 : k ≤ i := by omega
            have HD0 := Lib.hid hd0
            clear hd0 hck hLk
            go_wp2_with (at_builtin
                         refine wpR_append rfl _ _ rfl w.heap.size g7 c7 (k + 1) _ ⟨g, 0, none⟩ 0 0 [] rfl rfl HN7.out rfl (fun j u hj => by simp at hj) (by omega) (by omega) ?_
                         intro g9 c9 w9 ho9 hg9 ha9)
            have HB9 := Lib.hid (HB7.out.trans (Below.of_grown hg9 (by omega) (fun g8 e8 => by injection e8 with e8; omega)))
            have HF := Lib.hid (show ∃ ds', ds'.length = i + 1 ∧ cont ds' = sortLL (xss.take (i + 1)) ∧ OwnD w9 w.heap.size (some ⟨g9, 0, none⟩) c9 ds' from by
              refine ⟨ds.take k ++ ([(A5, c5, row xss i)] ++ ds.drop k), ?_, ?_, ⟨?_, fun d hd => ?_, apart_ins HO1.out.apart HAp.out⟩⟩
              · have := congrArg List.length HSt.out; rw [sortLL_len] at this; simp [cont] at this ⊢; omega
              · rw [← HSt.out]; simp [cont]
              · rw [HD0.out] at *
                have e1 : (ds.take k ++ ([((A5, c5, row xss i) : Row3)] ++ [])).length = k + 1 + 0 := by simp; have := HL.out; omega
                rw [e1]
                simpa using ho9
              · rcases List.mem_append.1 hd with hd | hd
                · exact OwnI.other_type HN7.out hg9 (HRw7.out d (List.mem_of_mem_take hd))
                · rcases List.mem_append.1 hd with hd | hd
                  · rw [List.mem_singleton] at hd; subst hd; exact OwnI.other_type HN7.out hg9 HX7.out
                  · exact OwnI.other_type HN7.out hg9 (HRw7.out d (List.mem_of_mem_drop hd)))
            clear ho9 hg9 ha9
            obtain ⟨ds', hf1, hf2, hf3⟩ := HF.out
            have HF2 := Lib.hid hf2
            have HF3 := Lib.hid hf3
            have HF1 := Lib.hid hf1
            clear hf1 hf2 hf3
            go_wp2
            go_roundw
            case rel => exact ⟨i + 1, g9, c9, ds', by omega, by go_num, by first | rfl | (congr 1; omega) | (congr 1), HF1, HF2, HF3, HB9⟩
            case measure => simp [intOf]; omega
          · have hck2 : k < c := by omega
            have hkL9 : k ≤ i := by omega
            have HNd := Lib.hid (show ∀ j u, ((ds.drop k).map rv)[j]? = some u → w7.cell? ((⟨g, k, none⟩ : Addr).add j) = some u from fun j u hj => by
              have hjk : j < (ds.drop k).length := by
                rcases Nat.lt_or_ge j (ds.drop k).length with h | h
                · exact h
                · rw [List.getElem?_eq_none (by simpa using h)] at hj; cases hj
              have hjd : k + j < ds.length := by rw [List.length_drop] at hjk; omega
              have hcl := World.ownsRow.cellAt HO7.out (k + j) (by omega)
              have hadd : (⟨g, k, none⟩ : Addr).add j = ⟨g, k + j, none⟩ := by unfold Addr.add; split <;> simp_all
              rw [hadd, hcl, ← hj]
              simp only [List.getElem?_map, List.getElem?_drop])
            clear hck
            go_wp2_with (at_builtin
                         refine wpR_append rfl _ _ rfl w.heap.size g7 c7 (k + 1) _ ⟨g, k, none⟩ (i - k) (c - k) (ds.drop k) rfl rfl HN7.out (by rw [List.length_drop, HL.out]) HNd.out (by omega) (by omega) ?_
                         intro g9 c9 w9 ho9 hg9 ha9)
            have HB9 := Lib.hid (HB7.out.trans (Below.of_grown hg9 (by omega) (fun g8 e8 => by injection e8 with e8; omega)))
            have HF := Lib.hid (show ∃ ds', ds'.length = i + 1 ∧ cont ds' = sortLL (xss.take (i + 1)) ∧ OwnD w9 w.heap.size (some ⟨g9, 0, none⟩) c9 ds' from by
              refine ⟨ds.take k ++ ([(A5, c5, row xss i)] ++ ds.drop k), ?_, ?_, ⟨?_, fun d hd => ?_, apart_ins HO1.out.apart HAp.out⟩⟩
              · have := congrArg List.length HSt.out; rw [sortLL_len] at this; simp [cont] at this ⊢; omega
              · rw [← HSt.out]; simp [cont]
              · have e1 : (ds.take k ++ ([((A5, c5, row xss i) : Row3)] ++ ds.drop k)).length = k + 1 + (i - k) := by simp; have := HL.out; omega
                rw [e1]
                simpa using ho9
              · rcases List.mem_append.1 hd with hd | hd
                · exact OwnI.other_type HN7.out hg9 (HRw7.out d (List.mem_of_mem_take hd))
                · rcases List.mem_append.1 hd with hd | hd
                  · rw [List.mem_singleton] at hd; subst hd; exact OwnI.other_type HN7.out hg9 HX7.out
                  · exact OwnI.other_type HN7.out hg9 (HRw7.out d (List.mem_of_mem_drop hd)))
            clear ho9 hg9 ha9
            obtain ⟨ds', hf1, hf2, hf3⟩ := HF.out
            have HF2 := Lib.hid hf2
            have HF3 := Lib.hid hf3
            have HF1 := Lib.hid hf1
            clear hf1 hf2 hf3
            go_wp2
            go_roundw
            case rel => exact ⟨i + 1, g9, c9, ds', by omega, by go_num, by first | rfl | (congr 1; omega) | (congr 1), HF1, HF2, HF3, HB9⟩
            case measure => simp [intOf]; omega
        · have hkp : 0 < k := by omega
          have hk1 : k - 1 < ds.length := by omega
          have hcx := World.ownsRow.cellAt HO.out.own (k - 1) (by omega)
          rw [show (ds.map rv)[k - 1]? = some (rv ds[k - 1]) by simp [hk1]] at hcx
          obtain ⟨d, hd⟩ : ∃ d, d = ds[k - 1] := ⟨_, rfl⟩
          rw [← hd] at hcx
          have hdm : d ∈ ds := by rw [hd]; exact List.getElem_mem hk1
          have hdr : row (cont ds) (k - 1) = d.2.2 := by rw [row_eq (by simpa [cont] using hk1), hd]; simp [cont]
          have hcc := (HB.out.cell (p := ⟨b, off + i, none⟩) hb).trans HCc.out
          have hcmp := fun q => CompareLists_c (wo.drewN q) d.1 (R i).1 d.2.2.length (row xss i).length d.2.1 (R i).2 d.2.2 (row xss i) ((HO.out.rows d hdm).rd.drewN q) rfl ((((HR.out.below HB.out).rows i hix)).drewN q) rfl
          have hbd := cmpL_bd d.2.2 (row xss i)
          obtain ⟨cq, hcq⟩ : ∃ cq, cq = cmpL d.2.2 (row xss i) := ⟨_, rfl⟩
          rw [← hcq] at hcmp hbd
          have HCQ := Lib.hid (show cq = cmpL (row (cont ds) (k - 1)) (row xss i) by rw [hdr]; exact hcq)
          have HCM := Lib.hid hcmp
          unfold rv at hcx
          have hkd : decide (0 < (k : Int)) = true := by simp; omega
          have hkd2 : decide (0 < k) = true := decide_eq_true hkp
          have hkd3 : (0 : Int) < (k : Int) := by omega
          have hsub : IntKind.i64.wrap ((k : Int) - 1) = ((k - 1 : Nat) : Int) := by rw [show (k : Int) - 1 = ((k - 1 : Nat) : Int) by omega]; exact IntWalk.i64_in _ (by omega)
          have hs0 : (0 : Int) ≤ ((k - 1 : Nat) : Int) := by omega
          have hs1' : ((k - 1 : Nat) : Int) < (i : Int) := by omega
          have hiI0 : (0 : Int) ≤ (i : Int) := by omega
          have hiI1 : (i : Int) < (n : Int) := by omega
          have HDm := Lib.hid hdm
          have HKL := Lib.hid hkL
          generalize hj : k - 1 = j at hsub hs0 hs1' hcx
          have HJ := Lib.hid hj
          clear hcq hcmp hk0 hd hdr hj hk1 hdm hkL
          by_cases hc9 : 0 < cq
          · have h2' : decide (0 < cq) = true := by simp; omega
            have HG2 := Lib.hid (show ∀ t, j ≤ t → t < ds.length → 0 < cmpL (row (cont ds) t) (row xss i) from fun t h1 h2 => by
              by_cases e : t = j
              · subst e; have := HCQ.out; rw [HJ.out] at this; rw [← this]; exact hc9
              · exact HGt.out t (by have := HJ.out; omega) h2)
            go_wp2
            go_quiet ((go_at_call 60; first | (with_reducible exact quiet_endN (HCM.out _)) | (with_reducible exact quiet_end0 (HCM.out _))))
            go_wp2
            clear hsub
            go_roundw
            case rel => exact ⟨j, by have := HJ.out; omega, by have := HJ.out; go_num, HG2, by first | exact qt2 _ _ _ | exact ⟨_, by rw [World.drewN_drewN]⟩ | exact ⟨_, rfl⟩⟩
            case measure => have := HJ.out; simp [intOf]; omega
          · have h2' : decide (0 < cq) = false := by simp; omega
            have hdk : 0 < k → cmpL (row (cont ds) (k - 1)) (row xss i) ≤ 0 := fun _ => by rw [← HCQ.out]; omega
            have HDK0 := Lib.hid hdk
            clear hdk
            go_wp2
            go_quiet ((go_at_call 60; first | (with_reducible exact quiet_endN (HCM.out _)) | (with_reducible exact quiet_end0 (HCM.out _))))
            have HO1 := Lib.hid (show OwnD (wo.drewN (m + nq)) w.heap.size (some ⟨g, 0, none⟩) c ds from ⟨HO.out.own, HO.out.rows, HO.out.apart⟩)
            have HB1 := Lib.hid (below_drewN HB.out (m + nq))
            (try rw [World.drewN_drewN])
            clear hsub hcx hcc hs0 hs1' hkd hkd2 hkd3
            generalize wo.drewN (m + nq) = w1 at *
            have hkL := HKL.out
            have hdk := HDK0.out
            have HDk := Lib.hid hdk
            have HSt := Lib.hid (show cont (ds.take k ++ ([((none : Option Addr), 0, row xss i)] ++ ds.drop k)) = sortLL (xss.take (i + 1)) from by
              rw [← ins_next hix (k := k) (by rw [← HC.out]; simpa [cont] using hkL) (by rw [← HC.out]; exact HDk.out) (by rw [← HC.out]; exact fun j h1 h2 => HGt.out j h1 (by simpa [cont] using h2))]
              rw [← HC.out]
              simp [cont, List.map_take, List.map_drop])
            have hgl := ownR_lt HO1.out.own
            obtain ⟨hg0, hg1, hLc, hcm⟩ := hgl
            unfold maxLen at hcm
            have hLn : ds.length ≤ n := by have := congrArg List.length HC.out; rw [sortLL_len] at this; simp [cont] at this; omega
            have hz1 := HB1.out.size
            have hk0I : (0 : Int) ≤ (k : Int) := by omega
            have hiI0 : (0 : Int) ≤ (i : Int) := by omega
            have hiI1 : (i : Int) < (n : Int) := by omega
            have HL := Lib.hid (show i = ds.length from HDl.out.symm)
            have HLit := Lib.hid ((OwnD.lit0 w1 hz1).own)
            have HOa := Lib.hid (ownR_keep (w' := w1.alloc (.cells #[] 35)) HO1.out.own (fun g2 e => by injection e with e; injection e with e; subst e; exact Below.heap_alloc w1 _ g hg1))
            have HB2 := Lib.hid (HB1.out.alloc hz1 (.cells #[] 35))
            have hs2 : (w1.alloc (.cells #[] 35)).heap.size = w1.heap.size + 1 := by simp
            have HNews := Lib.hid (show ∀ j u, ((ds.take k).map rv)[j]? = some u → (w1.alloc (.cells #[] 35)).cell? ((⟨g, 0, none⟩ : Addr).add j) = some u from fun j u hj => by
              have hjk : j < (ds.take k).length := by
                rcases Nat.lt_or_ge j (ds.take k).length with h | h
                · exact h
                · rw [List.getElem?_eq_none (by simpa using h)] at hj; cases hj
              have hjk2 : j < k ∧ j < ds.length := by rw [List.length_take] at hjk; omega
              have hcl := World.ownsRow.cellAt HOa.out j (by omega)
              have hadd : (⟨g, 0, none⟩ : Addr).add j = ⟨g, 0 + j, none⟩ := by unfold Addr.add; split <;> simp_all
              rw [hadd, Nat.zero_add, hcl, ← hj]
              simp only [List.getElem?_map, List.getElem?_take]
              rw [if_pos hjk2.1])
            rw [HDl.out] at hkL hLc hLn
            have hkc : k ≤ c := by omega
            go_wp2_with (at_builtin
                         refine wpR_append rfl _ _ rfl w.heap.size w1.heap.size 0 0 [] ⟨g, 0, none⟩ k c (ds.take k) rfl rfl HLit.out (by rw [List.length_take]; have := HL.out; omega) HNews.out (by omega) (by simp; omega) ?_
                         intro g3 c3 w3 ho3 hg3 ha3
                         refine stop_ ?_)
            have hge3 : w.heap.size ≤ g3 := by rcases ha3 with e | e <;> (try simp at e) <;> omega
            have hne3 : g ≠ g3 := by rcases ha3 with e | e <;> (try simp at e) <;> omega
            have HB3 := Lib.hid (HB2.out.trans (Below.of_grown hg3 (by simp; omega) (fun g9 e9 => by injection e9 with e9; omega)))
            have HOb := Lib.hid (ownR_keep (w' := w3) HOa.out (fun g2 e => by injection e with e; injection e with e; subst e; exact hg3.block g (by simp; omega) (by intro e9; injection e9 with e9; omega)))
            have HRw3 := Lib.hid (show ∀ d ∈ ds, OwnI w3 w.heap.size d.1 d.2.1 d.2.2 from fun d hd => OwnI.other_type HLit.out hg3 ((HO1.out.rows d hd).alloc _))
            rw [Nat.zero_add, List.nil_append] at ho3
            have HN3 := Lib.hid ho3
            have hz3 := HB3.out.size
            have hc3 := (HB3.out.cell (p := ⟨b, off + i, none⟩) hb).trans HCc.out
            have HOw := Lib.hid (l00Own_c w3 (R i).1 (row xss i).length (R i).2 (row xss i) ((HR.out.below HB3.out).rows i hix) rfl (HCap.out i hin) (HZ.out i hin))
            clear ho3 hg3 ha3
            refine Lib.hid ?_
            go_wp2_with fail
            refine (HOw.out).mono ?_
            rintro e w5 ⟨⟨A5, n5, c5, rfl, hn5, ho5⟩, hb5⟩
            have HB5 := Lib.hid (HB3.out.trans (hb5.mono hz3))
            have hz5 := HB5.out.size
            have HX5 := Lib.hid ho5
            have HN5 := Lib.hid hn5
            have HO5 := Lib.hid (ownR_keep (w' := w5) HOb.out (fun g2 e => hb5.block g2 (by injection e with e; injection e with e; subst e; exact (ownR_lt HOb.out).2.1)))
            have HM5 := Lib.hid (ownR_keep (w' := w5) HN3.out (fun g2 e => hb5.block g2 (by injection e with e; injection e with e; subst e; exact (ownR_lt HN3.out).2.1)))
            have HRw5 := Lib.hid (show ∀ d ∈ ds, OwnI w5 w.heap.size d.1 d.2.1 d.2.2 from fun d hd => (HRw3.out d hd).below hb5)
            have hs35 := hb5.size
            have HAp := Lib.hid (show ∀ d ∈ ds, Apart d (A5, c5, row xss i) from fun d hd g9 e1 e2 => by
              have a1 := ((HRw3.out d hd).lt e1).2
              have a2 := (ho5.lt e2).1
              omega)
            have HO6 := Lib.hid (ownR_keep (w' := w5.alloc (.cells #[.slice A5 n5 c5] 35)) HO5.out (fun g2 e => Below.heap_alloc w5 _ g2 (by injection e with e; injection e with e; subst e; exact (ownR_lt HO5.out).2.1)))
            have HM6 := Lib.hid (ownR_keep (w' := w5.alloc (.cells #[.slice A5 n5 c5] 35)) HM5.out (fun g2 e => Below.heap_alloc w5 _ g2 (by injection e with e; injection e with e; subst e; exact (ownR_lt HM5.out).2.1)))
            have HB6 := Lib.hid (HB5.out.alloc hz5 (.cells #[.slice A5 n5 c5] 35))
            have hlg5 : g < w5.heap.size := (ownR_lt HO5.out).2.1
            have HNw := Lib.hid (show ∀ j u, ([((A5, c5, row xss i) : Row3)].map rv)[j]? = some u → (w5.alloc (.cells #[.slice A5 n5 c5] 35)).cell? ((⟨w5.heap.size, 0, none⟩ : Addr).add j) = some u from by
              have := cell_one_new w5 (.slice A5 n5 c5) 35
              rw [← HN5.out] at this ⊢
              exact this)
            clear hn5 ho5 hb5 hc3
            go_wp2_with (at_builtin
                         refine wpR_append rfl _ _ rfl w.heap.size g3 c3 k _ ⟨w5.heap.size, 0, none⟩ 1 1 [(A5, c5, row xss i)] rfl rfl HM6.out rfl HNw.out (by omega) (by simp; omega) ?_
                         intro g7 c7 w7 ho7 hg7 ha7
                         refine stop_ ?_)
            have hge7 : w.heap.size ≤ g7 := by rcases ha7 with e | e <;> (try simp at e) <;> omega
            have hne7 : g ≠ g7 := by rcases ha7 with e | e <;> (try simp at e) <;> omega
            have HB7 := Lib.hid (HB6.out.trans (Below.of_grown hg7 (by simp; omega) (fun g9 e9 => by injection e9 with e9; omega)))
            have HO7 := Lib.hid (ownR_keep (w' := w7) HO6.out (fun g2 e => by injection e with e; injection e with e; subst e; exact hg7.block g (by simp; omega) (by intro e9; injection e9 with e9; omega)))
            have HRw7 := Lib.hid (show ∀ d ∈ ds, OwnI w7 w.heap.size d.1 d.2.1 d.2.2 from fun d hd => OwnI.other_type HM6.out hg7 ((HRw5.out d hd).alloc _))
            have HX7 := Lib.hid (OwnI.other_type HM6.out hg7 ((HX5.out.lower (lo' := w.heap.size) hz3).alloc _))
            have HN7 := Lib.hid ho7
            have hz7 := HB7.out.size
            have hL1 : (k + 1) + (i - k) = i + 1 := by have h1 := congrArg List.length HSt.out; rw [sortLL_len] at h1; simp [cont] at h1; have h2 := HL.out; omega
            clear ho7 hg7 ha7
            refine Lib.hid ?_
            by_cases hck : c = k
            · have hLk : i = k := by omega
              have hd0 : ds.drop k = [] := List.drop_eq_nil_of_le (by have := HL.out; omega)
              have hlk0 : i - k = 0 := by omega
              have hck0 : c - k = 0 := by omega
              have hkL9 : k ≤ i := by omega
              have HD0 := Lib.hid hd0
              clear hd0 hck hLk
              go_wp2_with (at_builtin
                           refine wpR_append rfl _ _ rfl w.heap.size g7 c7 (k + 1) _ ⟨g, 0, none⟩ 0 0 [] rfl rfl HN7.out rfl (fun j u hj => by simp at hj) (by omega) (by omega) ?_
                           intro g9 c9 w9 ho9 hg9 ha9)
              have HB9 := Lib.hid (HB7.out.trans (Below.of_grown hg9 (by omega) (fun g8 e8 => by injection e8 with e8; omega)))
              have HF := Lib.hid (show ∃ ds', ds'.length = i + 1 ∧ cont ds' = sortLL (xss.take (i + 1)) ∧ OwnD w9 w.heap.size (some ⟨g9, 0, none⟩) c9 ds' from by
                refine ⟨ds.take k ++ ([(A5, c5, row xss i)] ++ ds.drop k), ?_, ?_, ⟨?_, fun d hd => ?_, apart_ins HO1.out.apart HAp.out⟩⟩
                · have := congrArg List.length HSt.out; rw [sortLL_len] at this; simp [cont] at this ⊢; omega
                · rw [← HSt.out]; simp [cont]
                · rw [HD0.out] at *
                  have e1 : (ds.take k ++ ([((A5, c5, row xss i) : Row3)] ++ [])).length = k + 1 + 0 := by simp; have := HL.out; omega
                  rw [e1]
                  simpa using ho9
                · rcases List.mem_append.1 hd with hd | hd
                  · exact OwnI.other_type HN7.out hg9 (HRw7.out d (List.mem_of_mem_take hd))
                  · rcases List.mem_append.1 hd with hd | hd
                    · rw [List.mem_singleton] at hd; subst hd; exact OwnI.other_type HN7.out hg9 HX7.out
                    · exact OwnI.other_type HN7.out hg9 (HRw7.out d (List.mem_of_mem_drop hd)))
              clear ho9 hg9 ha9
              obtain ⟨ds', hf1, hf2, hf3⟩ := HF.out
              have HF2 := Lib.hid hf2
              have HF3 := Lib.hid hf3
              have HF1 := Lib.hid hf1
              clear hf1 hf2 hf3
              go_wp2
              go_roundw
              case rel => exact ⟨i + 1, g9, c9, ds', by omega, by go_num, by first | rfl | (congr 1; omega) | (congr 1), HF1, HF2, HF3, HB9⟩
              case measure => simp [intOf]; omega
            · have hck2 : k < c := by omega
              have hkL9 : k ≤ i := by omega
              have HNd := Lib.hid (show ∀ j u, ((ds.drop k).map rv)[j]? = some u → w7.cell? ((⟨g, k, none⟩ : Addr).add j) = some u from fun j u hj => by
                have hjk : j < (ds.drop k).length := by
                  rcases Nat.lt_or_ge j (ds.drop k).length with h | h
                  · exact h
                  · rw [List.getElem?_eq_none (by simpa using h)] at hj; cases hj
                have hjd : k + j < ds.length := by rw [List.length_drop] at hjk; omega
                have hcl := World.ownsRow.cellAt HO7.out (k + j) (by omega)
                have hadd : (⟨g, k, none⟩ : Addr).add j = ⟨g, k + j, none⟩ := by unfold Addr.add; split <;> simp_all
                rw [hadd, hcl, ← hj]
                simp only [List.getElem?_map, List.getElem?_drop])
              clear hck
              go_wp2_with (at_builtin
                           refine wpR_append rfl _ _ rfl w.heap.size g7 c7 (k + 1) _ ⟨g, k, none⟩ (i - k) (c - k) (ds.drop k) rfl rfl HN7.out (by rw [List.length_drop, HL.out]) HNd.out (by omega) (by omega) ?_
                           intro g9 c9 w9 ho9 hg9 ha9)
              have HB9 := Lib.hid (HB7.out.trans (Below.of_grown hg9 (by omega) (fun g8 e8 => by injection e8 with e8; omega)))
              have HF := Lib.hid (show ∃ ds', ds'.length = i + 1 ∧ cont ds' = sortLL (xss.take (i + 1)) ∧ OwnD w9 w.heap.size (some ⟨g9, 0, none⟩) c9 ds' from by
                refine ⟨ds.take k ++ ([(A5, c5, row xss i)] ++ ds.drop k), ?_, ?_, ⟨?_, fun d hd => ?_, apart_ins HO1.out.apart HAp.out⟩⟩
                · have := congrArg List.length HSt.out; rw [sortLL_len] at this; simp [cont] at this ⊢; omega
                · rw [← HSt.out]; simp [cont]
                · have e1 : (ds.take k ++ ([((A5, c5, row xss i) : Row3)] ++ ds.drop k)).length = k + 1 + (i - k) := by simp; have := HL.out; omega
                  rw [e1]
                  simpa using ho9
                · rcases List.mem_append.1 hd with hd | hd
                  · exact OwnI.other_type HN7.out hg9 (HRw7.out d (List.mem_of_mem_take hd))
                  · rcases List.mem_append.1 hd with hd | hd
                    · rw [List.mem_singleton] at hd; subst hd; exact OwnI.other_type HN7.out hg9 HX7.out
                    · exact OwnI.other_type HN7.out hg9 (HRw7.out d (List.mem_of_mem_drop hd)))
              clear ho9 hg9 ha9
              obtain ⟨ds', hf1, hf2, hf3⟩ := HF.out
              have HF2 := Lib.hid hf2
              have HF3 := Lib.hid hf3
              have HF1 := Lib.hid hf1
              clear hf1 hf2 hf3
              go_wp2
              go_roundw
              case rel => exact ⟨i + 1, g9, c9, ds', by omega, by go_num, by first | rfl | (congr 1; omega) | (congr 1), HF1, HF2, HF3, HB9⟩
              case measure => simp [intOf]; omega
    · obtain rfl : i = n := by omega
      have HF := Lib.hid (show ∃ R', OwnM wr w.heap.size (some ⟨g, 0, none⟩) c R' (sortLL xss) from by
        obtain ⟨R', h⟩ := HO.out.toM
        rw [HC.out, List.take_of_length_le (by rw [HN.out]; exact Nat.le_refl _)] at h
        exact ⟨R', h⟩)
      have HLn := Lib.hid (show (sortLL xss).length = i by rw [sortLL_len, HN.out])
      go_wp2
      go_ret
      obtain ⟨R', h⟩ := HF.out
      exact ⟨⟨_, i, c, R', rfl, HLn.out, h⟩, HB.out⟩
end Go.Proofs.YtmmkmkbpgcbehaaGreat
