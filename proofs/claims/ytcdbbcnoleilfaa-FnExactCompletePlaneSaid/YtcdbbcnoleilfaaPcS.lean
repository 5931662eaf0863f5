/-
  l12Meet, l12Classes and ParallelClasses of the reference. Conditions: those of each theorem.
-/
import Derived.Test.YtcdbbcnoleilfaaPcP
namespace Go.Proofs.Ytcdbbcnoleilfaa
open Go.RowKit
set_option linter.unusedVariables false
set_option linter.unusedSimpArgs false

def meetB (xs ys : List Int) : Bool := anyTo (fun k => hasB ys (nth xs k)) xs.length
theorem meetB_dj {P : Nat} {xss : List (List Int)} (hR : RowsOk P xss) {i j : Nat} (hi : i < xss.length) : (!meetB (row xss i) (row xss j)) = dj (lnB xss) P i j := by
  have : meetB (row xss i) (row xss j) = !dj (lnB xss) P i j := by
    rcases e : dj (lnB xss) P i j with _ | _
    · rcases e2 : meetB (row xss i) (row xss j) with _ | _
      · have : dj (lnB xss) P i j = true := dj_t.2 fun y hy h1 h2 => by
          obtain ⟨k, hk, e3⟩ := mem_nth.1 (lnB_t.1 h1)
          have := anyTo_false.1 e2 k hk
          rw [e3, hasB_false] at this
          exact this (lnB_t.1 h2)
        rw [e] at this; cases this
      · rfl
    · rw [Bool.not_true]
      refine anyTo_false.2 fun k hk => hasB_false.2 fun hz => ?_
      have hs := (setB_iff.1 (hR i hi)).2.1 (nth (row xss i) k) (mem_nth.2 ⟨k, hk, rfl⟩)
      refine dj_t.1 e (nth (row xss i) k).toNat (by omega) (lnB_t.2 ?_) (lnB_t.2 ?_) <;> rw [show (((nth (row xss i) k).toNat : Nat) : Int) = nth (row xss i) k by omega]
      · exact mem_nth.2 ⟨k, hk, rfl⟩
      · exact hz
  rw [this, Bool.not_not]

set_option maxHeartbeats 1000000 in
theorem l12Meet_c (w : World) (A B : Option Addr) (n m c d : Nat) (xs ys : List Int) (hr : RdI w A c xs) (hn : xs.length = n) (hs : RdI w B d ys) (hm : ys.length = m) :
    Calls Try.prog 93 #[.slice A n c, .slice B m d] w (EndQ (.bool (meetB xs ys)) w) := by
  have hmx : n ≤ 9223372036854775807 := by have h1 := hr.le; have h2 := hr.cap; unfold maxLen at h2; omega
  have HHas := Lib.hid (fun (x : Int) => has_c w B m d ys x hs hm)
  have HR := Lib.hid hr
  have HN := Lib.hid hn
  clear hr hn hs hm
  go_enter Try.func93, Try.ntmps93
  go_wp2
  go_loop [5] (fun i => ∃ k : Nat, k ≤ n ∧ i = .int .i64 k ∧ Hid (∀ j, j < k → hasB ys (nth xs j) = false)) (fun i => n - (intOf i).toNat)
  case atStart => exact ⟨0, Nat.zero_le _, rfl, Lib.hid fun j hj => absurd hj (by omega)⟩
  case round =>
    obtain ⟨k, hk, rfl, HF⟩ := hrel
    by_cases hlt : k < n
    · obtain ⟨b, off, e, hb, hc⟩ := HR.out.at_ k (by rw [HN.out]; exact hlt)
      subst e
      have hk0 : (0 : Int) ≤ (k : Int) := by omega
      have hk1 : (k : Int) < (n : Int) := by omega
      have hH := HHas.out (nth xs k)
      rcases hv : hasB ys (nth xs k) with _ | _
      · rw [hv] at hH
        have HH := Lib.hid hH
        have HV := Lib.hid hv
        clear hH hv
        go_wp2_with fail
        refine (HH.out).mono ?_
        rintro e w' ⟨rfl, rfl⟩
        go_wp2
        go_round
        case rel =>
          refine ⟨k + 1, by omega, by go_num, Lib.hid fun j hj => ?_⟩
          by_cases e : j = k
          · subst e; exact HV.out
          · exact HF.out j (by omega)
        case measure => simp [intOf]; omega
      · rw [hv] at hH
        have HH := Lib.hid hH
        have HV := Lib.hid (show meetB xs ys = true from anyTo_true.2 ⟨k, by rw [HN.out]; exact hlt, hv⟩)
        rw [HV.out]
        clear hH hv
        go_wp2_with fail
        refine (HH.out).mono ?_
        rintro e w' ⟨rfl, rfl⟩
        go_wp2
        go_ret
        exact ⟨rfl, 0, rfl⟩
    · obtain rfl : k = n := by omega
      have HV := Lib.hid (show meetB xs ys = false from anyTo_false.2 fun j hj => HF.out j (by rw [HN.out] at hj; exact hj))
      go_wp2
      go_ret
      exact ⟨by first | rfl | (rw [HV.out]; rfl), 0, rfl⟩

set_option maxRecDepth 100000 in
set_option maxHeartbeats 8000000 in
theorem l12Classes_c (w : World) (Bx P K : Nat) (A : Option Addr) (n c : Nat) (R : Spine) (xss : List (List Int)) (hx : BoxD w Bx (P : Int) A n c) (hr : RdM w A c R xss) (hn : xss.length = n) (hD : DsgOk (P : Int) xss) (hI : Inc P xss.length K (lnB xss)) :
    Calls Try.prog 64 #[.pointer (some ⟨Bx, 0, none⟩)] w (PostM w (clsTo P xss n)) := by
  have hn128 : n ≤ 128 := by have := hD.2.1; omega
  have HX := Lib.hid hx
  have HR := Lib.hid hr
  have HN := Lib.hid hn
  have HI := Lib.hid hI
  have HRows := Lib.hid hD.rows
  have HOk := Lib.hid (fun (k : Nat) (hk : k ≤ n) => clsTo_ok hI (k := k) (by omega))
  have HMe := Lib.hid (fun (W : World) (hb : Below w.heap.size w W) (q i k : Nat) (hi : i < n) (hk : k < n) => l12Meet_c (W.drewN q) (R i).1 (R k).1 (row xss i).length (row xss k).length (R i).2 (R k).2 (row xss i) (row xss k) (((hr.below hb).rows i (by omega)).drewN q) rfl (((hr.below hb).rows k (by omega)).drewN q) rfl)
  have HE0 := Lib.hid (OwnM.lit0 w (Nat.le_refl w.heap.size) (fun _ => (none, 0)))
  have HEb0 := Lib.hid ((Below.refl w.heap.size w).alloc (Nat.le_refl _) (.cells #[] 52))
  clear hx hr hn hI hD
  go_enter Try.func64, Try.ntmps64
  go_wp2
  go_loopw [3, 4, 5, 6] (fun o v _ _ wr => ∃ (k s : Nat) (A' : Option Addr) (c' : Nat) (R' : Spine), k ≤ n ∧ v = .int .i64 k ∧ o = .slice A' s c' ∧ Hid ((clsTo P xss k).length = s) ∧ Hid (OwnM wr w.heap.size A' c' R' (clsTo P xss k)) ∧ Hid (Below w.heap.size w wr)) (fun _ v _ _ _ => n - (intOf v).toNat)
  case atStart => exact ⟨0, 0, _, _, _, Nat.zero_le _, rfl, rfl, Lib.hid rfl, HE0, HEb0⟩
  case round =>
    obtain ⟨k, s, A', c', R', hk, rfl, rfl, HS, HO, HB⟩ := hrel
    have hx3 := HX.out.below HB.out
    have hc1 := hx3.c1
    by_cases hkn : k < n
    · clear hx3
      have hs128 : s ≤ 128 := by have := clsTo_len P xss k; have := HS.out; omega
      have hkx : k < xss.length := by rw [HN.out]; exact hkn
      obtain ⟨b, off, e, hb, hcl⟩ := HR.out.open2 (by omega)
      subst e
      have HCl := Lib.hid hcl
      have HBb := Lib.hid hb
      have hk0 : (0 : Int) ≤ (k : Int) := by omega
      have hk1 : (k : Int) < (n : Int) := by omega
      have hok := HOk.out k (by omega)
      have HHd := Lib.hid (fun (i : Nat) (hi : i < s) => show nth (row (clsTo P xss k) i) 0 = ((cN (clsTo P xss k) i 0 : Nat) : Int) ∧ cN (clsTo P xss k) i 0 < n ∧ 0 < (row (clsTo P xss k) i).length ∧ (!meetB (row xss (cN (clsTo P xss k) i 0)) (row xss k)) = clsP P xss (clsTo P xss k) k i from by
        have hi' : i < (clsTo P xss k).length := by rw [HS.out]; exact hi
        have hm := hok.mem i hi' 0 (hok.ne i hi')
        exact ⟨hm.1, by omega, hok.ne i hi', meetB_dj HRows.out (by omega)⟩)
      have HUq := Lib.hid (fun (i j : Nat) (hi : i < s) (hj : j < s) => hok.clsP_uniq HI.out hkx (c := i) (c' := j) (by rw [HS.out]; exact hi) (by rw [HS.out]; exact hj))
      obtain ⟨wo, rfl⟩ : ∃ wo, wo = wr := ⟨_, rfl⟩
      clear hcl hb hok
      go_wp2
      go_loopw [5, 6] (fun a v wr => ∃ (i : Nat), i ≤ s ∧ v = .int .i64 i ∧ a = .int .i64 (firstIdx (clsP P xss (clsTo P xss k) k) i) ∧ Hid (∃ q, wr = wo.drewN q)) (fun _ v _ => s - (intOf v).toNat)
      case atStart => exact ⟨0, Nat.zero_le _, rfl, rfl, Lib.hid ⟨0, rfl⟩⟩
      case round =>
        obtain ⟨i, hi, rfl, rfl, HQ⟩ := hrel
        obtain ⟨q, rfl⟩ := HQ.out
        by_cases his : i < s
        · obtain ⟨h1, h2, h3, h4⟩ := HHd.out i his
          obtain ⟨g1, eg1, hlo1, _, hcx, _⟩ := HO.out.at_ (k := i) (by rw [HS.out]; exact his)
          subst eg1
          have hro := (HO.out.rows i (by rw [HS.out]; exact his)).rd
          obtain ⟨b2, off2, e2, hb2, hc2⟩ := hro.at_ 0 h3
          rw [h1] at hc2
          have hcj := (HB.out.cell (p := ⟨b, off + cN (clsTo P xss k) i 0, none⟩) HBb.out).trans (HCl.out _ (by rw [HN.out]; exact h2))
          have hck := (HB.out.cell (p := ⟨b, off + k, none⟩) HBb.out).trans (HCl.out k (by rw [HN.out]; exact hkn))
          have HM := Lib.hid (fun q => HMe.out wo HB.out q (cN (clsTo P xss k) i 0) k h2 hkn)
          rw [show off2 + 0 = off2 by omega] at hc2
          have hi0 : (0 : Int) ≤ (i : Int) := by omega
          have hi1 : (i : Int) < (s : Int) := by omega
          obtain ⟨j, hj⟩ : ∃ j, j = cN (clsTo P xss k) i 0 := ⟨_, rfl⟩
          obtain ⟨ln, hln⟩ : ∃ ln, ln = (row (clsTo P xss k) i).length := ⟨_, rfl⟩
          rw [← hj] at hc2 hcj HM h4 h2
          rw [← hln] at hcx h3
          have hj0 : (0 : Int) ≤ (j : Int) := by omega
          have hj1 : (j : Int) < (n : Int) := by omega
          have hl0 : (0 : Int) < (ln : Int) := by omega
          have HU2 := Lib.hid (fun (h : clsP P xss (clsTo P xss k) k i = true) => show firstIdx (clsP P xss (clsTo P xss k) k) (i + 1) = (i : Int) from firstIdx_hit (by omega) h fun c hc => by
            rcases e : clsP P xss (clsTo P xss k) k c with _ | _
            · rfl
            · have := HUq.out c i (by omega) his e h; omega)
          rcases hv : clsP P xss (clsTo P xss k) k i with _ | _
          · have hm : meetB (row xss j) (row xss k) = true := by rw [hv] at h4; simpa using h4
            have HN1 := Lib.hid (firstIdx_more hv)
            rw [hm] at HM
            clear h1 h4 hm hj hln hro hv HU2 hlo1
            go_wp2
            go_quiet ((go_at_call 93; first | (with_reducible exact quiet_endN (HM.out _)) | (with_reducible exact quiet_end0 (HM.out _))))
            try rw [World.drewN_drewN]
            generalize q + nq = q2 at *
            go_wp2
            go_roundw
            case rel => exact ⟨i + 1, by omega, by go_num, by rw [HN1.out], Lib.hid ⟨q2, rfl⟩⟩
            case measure => simp [intOf]; omega
          · have hm : meetB (row xss j) (row xss k) = false := by rw [hv] at h4; simpa using h4
            have HN1 := Lib.hid (HU2.out hv)
            rw [hm] at HM
            clear h1 h4 hm hj hln hro hv HU2 hlo1
            go_wp2
            go_quiet ((go_at_call 93; first | (with_reducible exact quiet_endN (HM.out _)) | (with_reducible exact quiet_end0 (HM.out _))))
            try rw [World.drewN_drewN]
            generalize q + nq = q2 at *
            go_wp2
            go_roundw
            case rel => exact ⟨i + 1, by omega, by go_num, by rw [HN1.out], Lib.hid ⟨q2, rfl⟩⟩
            case measure => simp [intOf]; omega
        · obtain rfl : i = s := by omega
          have HOq := Lib.hid (HO.out.drewN q)
          have HBq := Lib.hid (below_drewN HB.out q)
          clear hc1 HQ
          generalize wo.drewN q = wr at *
          have hsr := HBq.out.size
          rcases firstIdx_case (clsP P xss (clsTo P xss k) k) i with ⟨e, hno⟩ | ⟨c0, hc0, e, hyes⟩
          · rw [e]
            have HNw := Lib.hid (show clsTo P xss k ++ [[(k : Int)]] = clsTo P xss (k + 1) from by rw [clsTo, clsNext_new (by rw [HS.out]; exact e)])
            have HXa := Lib.hid ((OwnI.only wr (k : Int) hsr).alloc (.cells #[.slice (some ⟨wr.heap.size, 0, none⟩) 1 1] 52))
            have HOa := Lib.hid ((HOq.out.alloc (.cells #[.int .i64 (k : Int)] 2)).alloc (.cells #[.slice (some ⟨wr.heap.size, 0, none⟩) 1 1] 52))
            have HBa := Lib.hid ((HBq.out.alloc hsr (.cells #[.int .i64 (k : Int)] 2)).alloc (by simp; omega) (.cells #[.slice (some ⟨wr.heap.size, 0, none⟩) 1 1] 52))
            have HAp := Lib.hid (fun (k : Nat) (hk : k < (clsTo P xss _).length) g (e : (R' k).1 = some ⟨g, 0, none⟩) => show (some ⟨wr.heap.size, 0, none⟩ : Option Addr) ≠ some ⟨g, 0, none⟩ from fun e2 => by have := ((HOq.out.rows k hk).lt e).2; injection e2 with e2; injection e2 with e2; omega)
            clear e hno
            go_wp2_with (at_builtin; refine wpM_append rfl _ _ rfl w.heap.size _ _ _ R' (clsTo P xss k) (some ⟨wr.heap.size, 0, none⟩) 1 1 [(k : Int)] (wr.heap.size + 1) rfl rfl HS.out rfl HOa.out HXa.out HAp.out (by simp [go_sem]) (by omega) (by simp; omega) ?_; intro A5 c5 R5 w5 ho5 hg5 ha5)
            have HB5 := Lib.hid (HBa.out.trans (below_blkM HOa.out hg5 (Nat.le_refl _) (by simp; omega)))
            have HO5 := Lib.hid (show OwnM w5 w.heap.size A5 c5 R5 (clsTo P xss (k + 1)) from by rw [← HNw.out]; exact ho5)
            have HS5 := Lib.hid (show (clsTo P xss (k + 1)).length = i + 1 from by rw [← HNw.out, List.length_append, HS.out]; rfl)
            clear ho5 hg5 ha5
            go_wp2
            go_roundw
            case rel => exact ⟨k + 1, i + 1, _, _, _, by omega, by go_num, rfl, HS5, HO5, HB5⟩
            case measure => simp [intOf]; omega
          · rw [e]
            have hc0' : c0 < (clsTo P xss k).length := by rw [HS.out]; exact hc0
            have HNw := Lib.hid (show (clsTo P xss k).set c0 (row (clsTo P xss k) c0 ++ [(k : Int)]) = clsTo P xss (k + 1) from by rw [clsTo, clsNext_old (by rw [HS.out]; exact e)])
            have htl : (row (clsTo P xss k) c0).length ≤ 128 := by have := row_le_tot hc0'; have := clsTo_tot P xss k; omega
            obtain ⟨g1, eg1, hlo1, _, hcx, hfx⟩ := HOq.out.at_ hc0'
            subst eg1
            have HRx := Lib.hid (HOq.out.rows _ hc0')
            have HXc := Lib.hid hc0'
            obtain ⟨t, ht⟩ : ∃ t, t = (row (clsTo P xss k) c0).length := ⟨_, rfl⟩
            rw [← ht] at hcx htl
            have HT := Lib.hid ht.symm
            have hix0 : (0 : Int) ≤ (c0 : Int) := by omega
            have hix1 : (c0 : Int) < (i : Int) := by omega
            have HOwn := Lib.hid (l00Own_c wr _ t _ (row (clsTo P xss k) c0) HRx.out.rd ht.symm HRx.out.nilcap (by omega))
            clear e hyes ht hc0'
            generalize row (clsTo P xss k) c0 = rx at *
            go_wp2_with fail
            refine (HOwn.out).mono ?_
            rintro e w4 ⟨⟨A4, n4, c4, rfl, hn4, ho4⟩, hb4⟩
            obtain rfl : n4 = t := by rw [← hn4]; exact HT.out
            have HBr := Lib.hid hb4
            have hsz4 := hb4.size
            have HX4 := Lib.hid ho4
            have HN4 := Lib.hid hn4
            have HX4a := Lib.hid (ho4.alloc (.cells #[.int .i64 (k : Int)] 2))
            have HBr4 := Lib.hid (hb4.alloc hsz4 (.cells #[.int .i64 (k : Int)] 2))
            clear hcx hfx ho4 hn4 hb4
            go_wp2_with (at_builtin; refine wpI_append rfl _ _ rfl wr.heap.size _ _ _ rx (k : Int) w4.heap.size rfl rfl HN4.out HX4a.out (World.cell?_alloc_at _ _ _ _ rfl) (by omega) (by simp; omega) ?_; intro A5 c5 w5 ho5 hg5 ha5; refine stopP ?_)
            have hbw := HBr4.out.trans (below_blk HX4a.out hg5 (Nat.le_refl _) (by simp; omega))
            have HO5 := Lib.hid (HOq.out.below hbw)
            obtain ⟨g2, eg2, _, _, hcx, hfx⟩ := HO5.out.at_ HXc.out
            injection eg2 with eg2
            injection eg2 with eg2
            subst eg2
            have hst := HO5.out.set_row HXc.out (ho5.lower (lo' := w.heap.size) hsr) (fun k hk _ => later_apart HOq.out ho5 k hk)
            rw [List.length_append, HT.out] at hst
            have HO6 := Lib.hid (show OwnM (w5.setCell ⟨g1, c0, none⟩ (.slice A5 (n4 + 1) c5)) w.heap.size (some ⟨g1, 0, none⟩) _ _ (clsTo P xss (k + 1)) from by rw [← HNw.out]; exact hst)
            have HS6 := Lib.hid (show (clsTo P xss (k + 1)).length = i from by rw [← HNw.out, List.length_set]; exact HS.out)
            have HB6 := Lib.hid ((HBq.out.trans (hbw.mono hsr)).setCell (p := ⟨g1, c0, none⟩) hlo1 (.slice A5 (n4 + 1) c5))
            clear hst ho5 hg5 ha5 hbw
            refine Lib.hid ?_
            go_wp2
            go_roundw
            case rel => exact ⟨k + 1, i, _, _, _, by omega, by go_num, rfl, HS6, HO6, HB6⟩
            case measure => simp [intOf]; omega
    · obtain rfl : k = n := by omega
      clear hx3
      go_wp2
      go_ret
      exact ⟨⟨A', s, c', R', rfl, HS.out, HO.out⟩, HB.out⟩

set_option maxRecDepth 100000 in
set_option maxHeartbeats 8000000 in
theorem specParallelClasses_c (w : World) (p : Int) (hp : -9223372036854775808 ≤ p ∧ p ≤ 9223372036854775807) (A : Option Addr) (n c : Nat) (R : Spine) (xss : List (List Int)) (hr : RdM w A c R xss) (hn : xss.length = n) (hw : WfM xss) (hz : (n : Int) + (tot xss : Nat) ≤ 1048576) :
    Calls Try.prog 26 #[.agg #[.int .i64 p, .slice A n c]] w (PostMC w (pcX p xss) (pcC p xss)) := by
  clear hw hz
  obtain ⟨wa, hwa⟩ : ∃ wa, wa = w.alloc (.cells #[.int .i64 p, .slice A n c] 31) := ⟨_, rfl⟩
  have hXa : BoxD wa w.heap.size p A n c := by rw [hwa]; exact BoxD.made _ _ _ _ _ _
  have hBa : Below w.heap.size w wa := by rw [hwa]; exact below_boxed _ _
  have hsa : w.heap.size + 1 ≤ wa.heap.size := by rw [hwa]; simp
  have HXa := Lib.hid hXa
  have HBa := Lib.hid hBa
  have hO := l10Ok_c wa w.heap.size A n c R xss p hXa (hr.below hBa) hn
  rw [hwa] at hO
  rcases hd : dsgB p xss with _ | _
  · rw [hd] at hO
    have h1 : pcC p xss = 1 := if_neg (by rw [hd]; simp)
    rw [show pcX p xss = [] from if_neg (by omega), h1]
    have HO := Lib.hid hO
    have HWa := Lib.hid hwa
    clear hO hwa hXa hBa hr hn hp hd h1
    go_enter Try.func26, Try.ntmps26
    go_wp2_with fail
    refine (HO.out).mono ?_
    rintro e w' ⟨rfl, q, rfl⟩
    rw [← HWa.out]
    have HB2 := Lib.hid (below_drewN HBa.out q)
    go_wp2
    go_ret2
    exact ⟨⟨none, 0, 0, fun _ => (none, 0), rfl, rfl, OwnM.nil_ _ _ _⟩, HB2.out⟩
  have HAf := Lib.hid (fun (W : World) (hb : Below w.heap.size w W) (hX : BoxD W w.heap.size p A n c) => l12Affine_c W w.heap.size p A n c R xss hX (hr.below hb) hn)
  rw [hd] at hO
  have HO := Lib.hid hO
  have HWa := Lib.hid hwa
  by_cases ha : affI p xss = 0
  · have h1 : pcC p xss = 6 := (if_pos hd).trans (if_pos ha)
    rw [show pcX p xss = [] from if_neg (by omega), h1]
    rw [ha] at HAf
    clear hO hwa hXa hBa hr hn hp hd h1 ha
    go_enter Try.func26, Try.ntmps26
    go_wp2_with fail
    refine (HO.out).mono ?_
    rintro e w' ⟨rfl, q, rfl⟩
    rw [← HWa.out]
    have HB2 := Lib.hid (below_drewN HBa.out q)
    have HX2 := Lib.hid (HXa.out.drewN q)
    generalize wa.drewN q = w2 at *
    go_wp2_with fail
    refine (HAf.out _ HB2.out HX2.out).mono ?_
    rintro e w3 ⟨rfl, hb3⟩
    have HB3 := Lib.hid (HB2.out.trans (hb3.mono HB2.out.size))
    clear hb3
    go_wp2
    go_ret2
    exact ⟨⟨none, 0, 0, fun _ => (none, 0), rfl, rfl, OwnM.nil_ _ _ _⟩, HB3.out⟩
  · have h1 : pcC p xss = 0 := (if_pos hd).trans (if_neg ha)
    obtain ⟨P, rfl, hD, hK, hI, hX⟩ := pc_facts h1
    rw [hX, h1, hn]
    have HPc := Lib.hid (fun (W : World) (hb : Below w.heap.size w W) (hX : BoxD W w.heap.size (P : Int) A n c) => l12Classes_c W w.heap.size P _ A n c R xss hX (hr.below hb) hn hD hI)
    have hK0 : (affI (P : Int) xss == 0) = false := by simp; exact ha
    generalize affI (P : Int) xss = af at *
    generalize clsTo P xss n = C at *
    clear hO hwa hXa hBa hr hn hp hd h1 hK hI hD hX
    go_enter Try.func26, Try.ntmps26
    go_wp2_with fail
    refine (HO.out).mono ?_
    rintro e w' ⟨rfl, q, rfl⟩
    rw [← HWa.out]
    have HB2 := Lib.hid (below_drewN HBa.out q)
    have HX2 := Lib.hid (HXa.out.drewN q)
    generalize wa.drewN q = w2 at *
    go_wp2_with fail
    refine (HAf.out _ HB2.out HX2.out).mono ?_
    rintro e w3 ⟨rfl, hb3⟩
    have HB3 := Lib.hid (HB2.out.trans (hb3.mono HB2.out.size))
    have HX3 := Lib.hid (HX2.out.below hb3)
    clear hb3
    go_wp2_with fail
    refine (HPc.out _ HB3.out HX3.out).mono ?_
    rintro e w4 ⟨⟨A4, n4, c4, R4, rfl, hn4, ho4⟩, hb4⟩
    have HB4 := Lib.hid (HB3.out.trans (hb4.mono HB3.out.size))
    have HO4 := Lib.hid (ho4.lower (lo' := w.heap.size) HB3.out.size)
    have HN4 := Lib.hid hn4
    clear hb4 ho4 hn4
    go_wp2
    go_ret2
    exact ⟨⟨A4, n4, c4, R4, rfl, HN4.out, HO4.out⟩, HB4.out⟩
end Go.Proofs.Ytcdbbcnoleilfaa
