/-
  Quadrilaterals in the reference: l11Paschs and PaschsOf. Conditions: those of each theorem.
-/
import Derived.Test.YtmmkmkbpgcbehaaGreatPasS
import Derived.Test.YtmmkmkbpgcbehaaGreatGb
import Derived.Test.YtmmkmkbpgcbehaaGreatDFrame
namespace Go.Proofs.YtmmkmkbpgcbehaaGreat
open Go.RowKit
set_option linter.unusedVariables false
set_option linter.unusedSimpArgs false

theorem RdM.openT {w : World} {A : Option Addr} {c : Nat} {R : Spine} {h : List (List Int)} (hr : RdM w A c R h) (hn : 0 < h.length) :
    ∃ b off, A = some ⟨b, off, none⟩ ∧ b < w.heap.size ∧ ∀ k, k < h.length → w.cell? ⟨b, off + k, none⟩ = some (.slice (R k).1 (row h k).length (R k).2) := by
  obtain ⟨b, off, rfl, hb, _⟩ := hr.at_ 0 hn
  refine ⟨b, off, rfl, hb, fun k hk => ?_⟩
  obtain ⟨b', off', e, _, hc⟩ := hr.at_ k hk
  injection e with e
  injection e with e1 e2
  subst e1 e2
  exact hc
theorem keepT {lo : Nat} {w w' : World} {p1 p2 p3 : Addr} {v1 v2 v3 : Option Value} (hb : Below lo w w') (h1 : p1.block < lo) (h2 : p2.block < lo) (h3 : p3.block < lo)
    (h : w.cell? p1 = v1 ∧ w.cell? p2 = v2 ∧ w.cell? p3 = v3) : w'.cell? p1 = v1 ∧ w'.cell? p2 = v2 ∧ w'.cell? p3 = v3 :=
  ⟨(hb.cell h1).trans h.1, (hb.cell h2).trans h.2.1, (hb.cell h3).trans h.2.2⟩
theorem OwnD.below {w w' : World} {lo c : Nat} {A : Option Addr} {ds : List Row3} (h : OwnD w lo A c ds) (hb : Below w.heap.size w w') : OwnD w' lo A c ds :=
  ⟨ownR_keep h.own (fun g e => by subst e; exact hb.block g (ownR_lt h.own).2.1), fun d hd => (h.rows d hd).below hb, h.apart⟩
theorem OwnD.drewT {w : World} {lo c : Nat} {A : Option Addr} {ds : List Row3} (h : OwnD w lo A c ds) (n : Nat) : OwnD (w.drewN n) lo A c ds := ⟨h.own, h.rows, h.apart⟩
/-- The list holds the quadrilaterals seen so far. -/
def QInv (xss : List (List Int)) (a b : Nat) (Q : List (List Int)) : Prop := StrictLL Q ∧ ∀ q, q ∈ Q ↔ qDone xss a b q
def QIn (xss : List (List Int)) (a b j : Nat) (Q : List (List Int)) : Prop := StrictLL Q ∧ ∀ q, q ∈ Q ↔ qDone xss a b q ∨ q ∈ (qTo xss a b 2).take j
theorem QInv.open_ {xss : List (List Int)} {a b : Nat} {Q : List (List Int)} (h : QInv xss a b Q) : QIn xss a b 0 Q := ⟨h.1, fun q => by rw [h.2 q]; simp⟩
theorem QIn.close {xss : List (List Int)} {a b s : Nat} {Q : List (List Int)} (h : QIn xss a b s Q) (hs : (qTo xss a b 2).length = s) (hm : qMeet xss a b) (hab : a < b) (hb : b < xss.length) : QInv xss a (b + 1) Q :=
  ⟨h.1, fun q => by rw [h.2 q, List.take_of_length_le (by omega), qDone_next hab hb, show qPair xss a b = qTo xss a b 2 from if_pos hm]⟩
theorem QInv.skip {xss : List (List Int)} {a b : Nat} {Q : List (List Int)} (h : QInv xss a b Q) (hm : ¬ qMeet xss a b) (hab : a < b) (hb : b < xss.length) : QInv xss a (b + 1) Q :=
  ⟨h.1, fun q => by rw [h.2 q, qDone_next hab hb, show qPair xss a b = [] from if_neg hm]; simp⟩
theorem takeT_mem {L : List (List Int)} {j : Nat} (hj : j < L.length) (q : List Int) : q ∈ L.take (j + 1) ↔ q ∈ L.take j ∨ q = row L j := by
  rw [take_row hj, List.mem_append, List.mem_singleton]
theorem QIn.old {xss : List (List Int)} {a b j : Nat} {Q : List (List Int)} (h : QIn xss a b j Q) (hj : j < (qTo xss a b 2).length) (hf : fdB Q (row (qTo xss a b 2) j) = true) : QIn xss a b (j + 1) Q := by
  refine ⟨h.1, fun q => ?_⟩
  have hin := (h.2 _).1 (of_decide_eq_true hf)
  rw [h.2 q, takeT_mem hj]
  constructor
  · rintro (h1 | h1)
    · exact .inl h1
    · exact .inr (.inl h1)
  · rintro (h1 | h1 | h1)
    · exact .inl h1
    · exact .inr h1
    · rw [h1]; exact hin
theorem QIn.new {xss : List (List Int)} {a b j : Nat} {Q : List (List Int)} (h : QIn xss a b j Q) (hj : j < (qTo xss a b 2).length) (hf : fdB Q (row (qTo xss a b 2) j) = false) : QIn xss a b (j + 1) (insQ Q (row (qTo xss a b 2) j)) := by
  refine ⟨insQ_strict h.1 (of_decide_eq_false hf), fun q => ?_⟩
  rw [insQ_mem, h.2 q, takeT_mem hj, or_assoc]
theorem QInv.all {P : Nat} {xss : List (List Int)} (hT : TripSys P xss) {a b : Nat} {Q : List (List Int)} (h : QInv xss a b Q) (ha : a = xss.length) : Q = qdR xss := by
  subst ha
  exact strict_ext h.1 (qdR_strict xss) (fun q => by rw [h.2 q, qDone_all hT])
theorem QInv.turn {xss : List (List Int)} {a b : Nat} {Q : List (List Int)} (h : QInv xss a b Q) (hb : b = xss.length) : QInv xss (a + 1) (a + 2) Q := by
  subst hb
  exact ⟨h.1, fun q => by rw [h.2 q, qDone_turn]⟩
theorem cont_ins (ds : List Row3) (k : Nat) (x : Row3) : cont (ds.take k ++ ([x] ++ ds.drop k)) = (cont ds).take k ++ [x.2.2] ++ (cont ds).drop k := by
  simp [cont]
/-- The rows that are out already lie apart from those of a list that was made later. -/
def FarT (ds : List Row3) (lo j : Nat) (R : Spine) : Prop := ∀ d ∈ ds, (∀ g, d.1 = some ⟨g, 0, none⟩ → g < lo) ∨ ∃ j', j' < j ∧ d.1 = (R j').1
theorem FarT.apart {ds : List Row3} {lo j c : Nat} {R : Spine} {w : World} {A : Option Addr} {L : List (List Int)} (h : FarT ds lo j R) (hO : OwnM w lo A c R L) (hj : j < L.length) : ∀ d ∈ ds, Apart d ((R j).1, (R j).2, row L j) := fun d hd g e e2 => by
  rcases h d hd with h1 | ⟨j', hj', e1⟩
  · have := ((hO.rows j hj).lt e2).1
    have := h1 g e
    omega
  · exact hO.apart j' j hj' hj g (e1 ▸ e) e2
theorem FarT.more {ds : List Row3} {lo j : Nat} {R : Spine} (h : FarT ds lo j R) : FarT ds lo (j + 1) R := fun d hd => by
  rcases h d hd with h1 | ⟨j', hj', e1⟩
  · exact .inl h1
  · exact .inr ⟨j', by omega, e1⟩
theorem FarT.put {ds : List Row3} {lo j : Nat} {R : Spine} (h : FarT ds lo j R) (k : Nat) (xs : List Int) : FarT (ds.take k ++ ([((R j).1, (R j).2, xs)] ++ ds.drop k)) lo (j + 1) R := fun d hd => by
  rcases List.mem_append.1 hd with hd | hd
  · exact h.more d (List.mem_of_mem_take hd)
  · rcases List.mem_append.1 hd with hd | hd
    · rw [List.mem_singleton] at hd; subst hd; exact .inr ⟨j, by omega, rfl⟩
    · exact h.more d (List.mem_of_mem_drop hd)
theorem FarT.start {w : World} {lo0 c : Nat} {A : Option Addr} {ds : List Row3} {R : Spine} (h : OwnD w lo0 A c ds) : FarT ds w.heap.size 0 R := fun d hd => .inl fun g e => ((h.rows d hd).lt e).2

set_option maxRecDepth 100000 in
set_option maxHeartbeats 16000000 in
theorem l11Paschs_c (w : World) (Bx P : Nat) (A : Option Addr) (n c : Nat) (R : Spine) (xss : List (List Int)) (hx : BoxD w Bx (P : Int) A n c) (hr : RdM w A c R xss) (hn : xss.length = n) (hD : DsgOk (P : Int) xss) (hT : TripSys P xss) :
    Calls Tryz.prog 22 #[.pointer (some ⟨Bx, 0, none⟩)] w (PostM w (qdR xss)) := by
  have hn128 : n ≤ 128 := by have := hD.2.1; omega
  have HQu := Lib.hid (fun (W : World) (hb : Below w.heap.size w W) (i k : Nat) (hik : i < k) (hk : k < n) (hm : qMeet xss i k) (z : Int) (hz : meetL (row xss i) (row xss k) = [z]) => l11Quads_c W Bx P A n c R xss (hx.below hb) (hr.below hb) hn hD hT i k hik hk hm z hz)
  have HMeet := Lib.hid (fun (W : World) (hb : Below w.heap.size w W) (i k : Nat) (hi : i < xss.length) (hk : k < xss.length) => (show Calls Tryz.prog 44 #[.slice (R i).1 3 (R i).2, .slice (R k).1 3 (R k).2] W (PostS W (meetL (row xss i) (row xss k))) from specMeetSets_c W (R i).1 (R k).1 3 3 (R i).2 (R k).2 (row xss i) (row xss k) ((hr.below hb).rows i hi) (hT.three i hi) ((hr.below hb).rows k hk) (hT.three k hk) (setQ (hT.rows i hi)) (setQ (hT.rows k hk))))
  have HTr := Lib.hid hT
  have HN := Lib.hid hn
  have HX := Lib.hid hx
  have HR := Lib.hid hr
  have HD0 := Lib.hid (OwnD.lit0 w (Nat.le_refl w.heap.size))
  have HB0 := Lib.hid ((Below.refl w.heap.size w).alloc (Nat.le_refl _) (.cells #[] 35))
  have HQ0 := Lib.hid (show QInv xss 0 1 (cont []) from ⟨List.Pairwise.nil, fun q => ⟨(fun h => by simp [cont] at h), fun h => absurd h (qDone_zero xss 1 (Nat.le_refl 1) q)⟩⟩)
  clear hx hr hn hD hT
  go_enter Tryz.func22, Tryz.ntmps22
  go_wp2
  go_loopw [3, 4, 5, 6, 7, 8, 9, 10] (fun o v _ _ _ _ _ _ wr => ∃ (i s g c' : Nat) (ds : List Row3), i ≤ n ∧ v = .int .i64 i ∧ o = .slice (some ⟨g, 0, none⟩) s c' ∧ s ≤ 256 * i ∧ Hid (ds.length = s) ∧ Hid (QInv xss i (i + 1) (cont ds)) ∧ Hid (OwnD wr w.heap.size (some ⟨g, 0, none⟩) c' ds) ∧ Hid (Below w.heap.size w wr)) (fun _ v _ _ _ _ _ _ _ => n - (intOf v).toNat)
  case atStart => exact ⟨0, 0, _, _, [], Nat.zero_le _, rfl, rfl, by omega, Lib.hid rfl, HQ0, HD0, HB0⟩
  case round =>
    obtain ⟨i, s, g, c', ds, hi, rfl, rfl, hs, HS, HQ, HO, HB⟩ := hrel
    have hxr := HX.out.below HB.out
    have hc1 := hxr.c1
    by_cases hin : i < n
    · have hs0 : s ≤ 256 * i + 2 * (i + 1) := by omega
      obtain ⟨wo, rfl⟩ : ∃ wo, wo = wr := ⟨_, rfl⟩
      clear hxr
      go_wp2
      clear hc1
      go_loopw [3, 5, 6, 7, 8, 9, 10] (fun o v _ _ _ _ _ wr => ∃ (k s g c' : Nat) (ds : List Row3), i < k ∧ k ≤ n ∧ v = .int .i64 k ∧ o = .slice (some ⟨g, 0, none⟩) s c' ∧ s ≤ 256 * i + 2 * k ∧ Hid (ds.length = s) ∧ Hid (QInv xss i k (cont ds)) ∧ Hid (OwnD wr w.heap.size (some ⟨g, 0, none⟩) c' ds) ∧ Hid (Below w.heap.size w wr)) (fun _ v _ _ _ _ _ _ => n - (intOf v).toNat)
      case atStart => exact ⟨i + 1, s, g, c', ds, by omega, by omega, by go_num, rfl, hs0, HS, HQ, HO, HB⟩
      case round =>
        obtain ⟨k, s, g, c', ds, hik, hk, rfl, rfl, hs, HS, HQ, HO, HB⟩ := hrel
        have hxr := HX.out.below HB.out
        have hc1 := hxr.c1
        by_cases hkn : k < n
        · have hix : i < xss.length := by rw [HN.out]; exact hin
          have hkx : k < xss.length := by rw [HN.out]; exact hkn
          obtain ⟨b, off, e, hb, hcl⟩ := HR.out.openT (by omega)
          subst e
          have hci := (HB.out.cell (p := ⟨b, off + i, none⟩) hb).trans (hcl i hix)
          have hck := (HB.out.cell (p := ⟨b, off + k, none⟩) hb).trans (hcl k hkx)
          rw [HTr.out.three i hix] at hci
          rw [HTr.out.three k hkx] at hck
          have hszr := HB.out.size
          have hi0 : (0 : Int) ≤ (i : Int) := by omega
          have hi1 : (i : Int) < (n : Int) := by omega
          have hk0 : (0 : Int) ≤ (k : Int) := by omega
          have hk1 : (k : Int) < (n : Int) := by omega
          have HMe := Lib.hid (HMeet.out wr.drew HB.out.drew i k hix hkx)
          have hq1 : Bx < wr.drew.heap.size := hxr.lt
          have hq2 : b < wr.drew.heap.size := by show b < wr.heap.size; omega
          have hS : wr.drew.cell? ⟨Bx, 1, none⟩ = some (.slice (some ⟨b, off, none⟩) n c) ∧ wr.drew.cell? ⟨b, off + i, none⟩ = some (.slice (R i).1 3 (R i).2) ∧ wr.drew.cell? ⟨b, off + k, none⟩ = some (.slice (R k).1 3 (R k).2) := ⟨hc1, hci, hck⟩
          clear hcl hxr
          go_wp2
          clear hc1 hci hck
          go_region_held3 (fun w' => w'.cell? ⟨Bx, 1, none⟩ = some (.slice (some ⟨b, off, none⟩) n c) ∧ w'.cell? ⟨b, off + i, none⟩ = some (.slice (R i).1 3 (R i).2) ∧ w'.cell? ⟨b, off + k, none⟩ = some (.slice (R k).1 3 (R k).2)) (first | exact hS | exact hS4)
            (first | (go_at_call 44; (with_reducible refine (HMe.out).mono ?_); rintro e w4 ⟨⟨A4, n4, c4, rfl, hn4, ho4⟩, hb4⟩; have hS4 := keepT hb4 hq1 hq2 hq2 hS) | fail "no arm")
          have hszd : wr.drew.heap.size = wr.heap.size := rfl
          have HB4 := Lib.hid (show Below w.heap.size w w4 from HB.out.drew.trans (hb4.mono hszr))
          have HO4 := Lib.hid ((HO.out.drewT 1).below hb4)
          have hsz4 := HB4.out.size
          by_cases hm : qMeet xss i k
          · obtain rfl : n4 = 1 := by rw [← hn4]; exact hm
            obtain ⟨z, hz⟩ : ∃ z, meetL (row xss i) (row xss k) = [z] := by
              have : (meetL (row xss i) (row xss k)).length = 1 := hm
              exact List.length_eq_one_iff.1 this
            rw [hz] at ho4
            obtain ⟨g4, e4, hg40, hg41, hp4, _⟩ := ho4.at_ (k := 0) (by simp)
            subst e4
            have hp4' : w4.cell? ⟨g4, 0, none⟩ = some (.int .i64 z) := hp4
            have HQd := Lib.hid (HQu.out w4 HB4.out i k hik hkn hm z hz)
            have HM := Lib.hid hm
            clear hp4 ho4 hn4 hb4 hm hz hS hS4
            go_wp2_with fail
            refine (HQd.out).mono ?_
            rintro e w5 ⟨⟨A5, n5, c5, R5, rfl, hn5, ho5⟩, hb5⟩
            have HB5 := Lib.hid (HB4.out.trans (hb5.mono hsz4))
            have HO5 := Lib.hid (HO4.out.below hb5)
            have HL5 := Lib.hid ho5
            have HN5 := Lib.hid hn5
            have hn52 : n5 ≤ 2 := by rw [← hn5]; exact qTo_len xss i k 2
            have HF5 := Lib.hid (show FarT ds w4.heap.size 0 R5 from FarT.start HO4.out)
            have HQi := Lib.hid HQ.out.open_
            have hs5 : s ≤ 256 * i + 2 * k + 0 := by omega
            clear hp4' hn5 ho5 hb5
            obtain ⟨wo, rfl⟩ : ∃ wo, wo = w5 := ⟨_, rfl⟩
            go_wp2
            go_loopw [3, 8, 9, 10] (fun o v _ _ wr => ∃ (j s g c' : Nat) (ds : List Row3), j ≤ n5 ∧ v = .int .i64 j ∧ o = .slice (some ⟨g, 0, none⟩) s c' ∧ s ≤ 256 * i + 2 * k + j ∧ Hid (ds.length = s) ∧ Hid (QIn xss i k j (cont ds)) ∧ Hid (FarT ds w4.heap.size j R5) ∧ Hid (OwnM wr w4.heap.size A5 c5 R5 (qTo xss i k 2)) ∧ Hid (OwnD wr w.heap.size (some ⟨g, 0, none⟩) c' ds) ∧ Hid (Below w.heap.size w wr)) (fun _ v _ _ _ => n5 - (intOf v).toNat)
            case atStart => exact ⟨0, s, g, c', ds, Nat.zero_le _, rfl, rfl, hs5, HS, HQi, HF5, HL5, HO5, HB5⟩
            case round =>
              obtain ⟨j, s, g, c', ds, hj, rfl, rfl, hs, HS, HQ, HF, HL, HO, HB⟩ := hrel
              have hszr := HB.out.size
              by_cases hjn : j < n5
              · have hjx : j < (qTo xss i k 2).length := by rw [HN5.out]; exact hjn
                obtain ⟨g5, e5, hg50, hg51, hcj, _⟩ := HL.out.at_ hjx
                subst e5
                obtain ⟨p, hp⟩ : ∃ p, p = row (qTo xss i k 2) j := ⟨_, rfl⟩
                rw [← hp] at hcj
                have HP := Lib.hid hp
                have hcl : (cont ds).length = s := by unfold cont; rw [List.length_map]; exact HS.out
                obtain ⟨Rd, hRd⟩ := HO.out.toM
                have HFd := Lib.hid (l05Find_c wr _ s c' Rd (cont ds) hRd.rd hcl HQ.out.1 (by omega) (R5 j).1 p.length (R5 j).2 p (by rw [hp]; exact (HL.out.rows j hjx).rd) rfl)
                have hj0 : (0 : Int) ≤ (j : Int) := by omega
                have hj1 : (j : Int) < (n5 : Int) := by omega
                have hlo : loI (cont ds) p ≤ s := by have := loI_le (cont ds) p; omega
                have HCo := Lib.hid (show insQ (cont ds) p = cont (ds.take (loI (cont ds) p) ++ ([((R5 j).1, (R5 j).2, p)] ++ ds.drop (loI (cont ds) p))) from (cont_ins ds (loI (cont ds) p) ((R5 j).1, (R5 j).2, p)).symm)
                have HLn := Lib.hid (show (ds.take (loI (cont ds) p) ++ ([((R5 j).1, (R5 j).2, p)] ++ ds.drop (loI (cont ds) p))).length = s + 1 from by simp; have := HS.out; omega)
                have HFp := Lib.hid (HF.out.put (loI (cont ds) p) p)
                generalize hlo_ : loI (cont ds) p = lo at *
                clear hlo_ hRd hcl hp
                rcases hf : fdB (cont ds) p with _ | _
                · rw [hf] at HFd
                  have HQn := Lib.hid (HQ.out.new hjx (by rw [← HP.out]; exact hf))
                  have HPu := Lib.hid (fun (W : World) (hO : OwnD W w.heap.size (some ⟨g, 0, none⟩) c' ds) (hW : w.heap.size ≤ W.heap.size) (hI : OwnI W w.heap.size (R5 j).1 (R5 j).2 p) => l05Put_c W w.heap.size g c' s lo p.length ds ((R5 j).1, (R5 j).2, p) hO hW HS.out hlo (by omega) hI rfl (by rw [HP.out]; exact HF.out.apart HL.out hjx))
                  clear hf
                  go_wp2_with fail
                  refine (HFd.out).mono ?_
                  rintro e w6 ⟨rfl, q6, rfl⟩
                  have hcj6 : (wr.drewN q6).cell? ⟨g5, j, none⟩ = some (.slice (R5 j).1 p.length (R5 j).2) := hcj
                  have HO6 := Lib.hid (HO.out.drewT q6)
                  have HL6 := Lib.hid (HL.out.drewN q6)
                  have HB6 := Lib.hid (below_drewN HB.out q6)
                  clear hcj
                  generalize wr.drewN q6 = w6 at *
                  have hs6 := HB6.out.size
                  go_wp2_with fail
                  refine (HPu.out w6 HO6.out hs6 (by rw [HP.out]; exact (HL6.out.rows j hjx).lower (by omega))).mono ?_
                  rintro e w7 ⟨⟨g7, c7, rfl, ho7⟩, hb7⟩
                  have HO7 := Lib.hid ho7
                  have HL7 := Lib.hid (HL6.out.below hb7)
                  have HB7 := Lib.hid (HB6.out.trans (hb7.mono hs6))
                  have HQ7 := Lib.hid (show QIn xss i k (j + 1) (cont (ds.take lo ++ ([((R5 j).1, (R5 j).2, p)] ++ ds.drop lo))) from by rw [← HCo.out, HP.out]; exact HQn.out)
                  clear ho7 hb7 hcj6
                  go_wp2
                  go_roundw
                  case rel => exact ⟨j + 1, s + 1, g7, c7, _, by omega, by go_num, rfl, by omega, HLn, HQ7, HFp, HL7, HO7, HB7⟩
                  case measure => simp [intOf] <;> omega
                · rw [hf] at HFd
                  have HQn := Lib.hid (HQ.out.old hjx (by rw [← HP.out]; exact hf))
                  clear hf
                  go_wp2_with fail
                  refine (HFd.out).mono ?_
                  rintro e w6 ⟨rfl, q6, rfl⟩
                  have HO6 := Lib.hid (HO.out.drewT q6)
                  have HL6 := Lib.hid (HL.out.drewN q6)
                  have HB6 := Lib.hid (below_drewN HB.out q6)
                  have HF6 := Lib.hid HF.out.more
                  clear hcj
                  generalize wr.drewN q6 = w6 at *
                  go_wp2
                  go_roundw
                  case rel => exact ⟨j + 1, s, g, c', ds, by omega, by go_num, rfl, by omega, HS, HQn, HF6, HL6, HO6, HB6⟩
                  case measure => simp [intOf] <;> omega
              · obtain rfl : j = n5 := by omega
                have HQc := Lib.hid (HQ.out.close HN5.out HM.out hik (by rw [HN.out]; exact hkn))
                go_wp2
                go_roundw
                case rel => exact ⟨k + 1, s, g, c', ds, by omega, by omega, by go_num, rfl, by omega, HS, HQc, HO, HB⟩
                case measure => simp [intOf] <;> omega
          · have hne : ((n4 : Int) != 1) = true := by
              have : n4 ≠ 1 := fun e => hm (hn4.trans e)
              simp; omega
            have HQn := Lib.hid (HQ.out.skip hm hik hkx)
            clear hm hn4 ho4 hb4 hS hS4
            go_wp2
            go_roundw
            case rel => exact ⟨k + 1, s, g, c', ds, by omega, by omega, by go_num, rfl, by omega, HS, HQn, HO4, HB4⟩
            case measure => simp [intOf] <;> omega
        · obtain rfl : k = n := by omega
          have HQn := Lib.hid (HQ.out.turn HN.out.symm)
          clear hxr
          go_wp2
          go_roundw
          case rel => exact ⟨i + 1, s, g, c', ds, by omega, by go_num, rfl, by omega, HS, HQn, HO, HB⟩
          case measure => simp [intOf] <;> omega
    · obtain rfl : i = n := by omega
      have HQn := Lib.hid (HQ.out.all HTr.out HN.out.symm)
      have HCl := Lib.hid (show (cont ds).length = s from by unfold cont; rw [List.length_map]; exact HS.out)
      clear hxr
      go_wp2
      go_ret
      obtain ⟨Rd, hRd⟩ := HO.out.toM
      exact ⟨⟨_, s, _, Rd, rfl, by rw [← HQn.out]; exact HCl.out, by rw [← HQn.out]; exact hRd⟩, HB.out⟩

set_option maxRecDepth 100000 in
set_option maxHeartbeats 8000000 in
theorem specPaschsOf_c (w : World) (p : Int) (hp : -9223372036854775808 ≤ p ∧ p ≤ 9223372036854775807) (A : Option Addr) (n c : Nat) (R : Spine) (xss : List (List Int)) (hr : RdM w A c R xss) (hn : xss.length = n) (hw : WfM xss) (hz : (n : Int) + (tot xss : Nat) ≤ 1048576) :
    Calls Tryz.prog 6 #[.agg #[.int .i64 p, .slice A n c]] w (PostMC w (quR p xss) (quC p xss)) := by
  have hB0 := below_boxed w (.cells #[.int .i64 p, .slice A n c] 28)
  have hX := BoxD.made w p A n c 28
  have hO := l11Ok_c _ w.heap.size p A n c R xss hX (hr.below hB0) hn
  have HB0 := Lib.hid hB0
  have HX := Lib.hid hX
  clear hp hw hz
  rcases hd : tripB p xss with _ | _
  · rw [hd] at hO
    rw [show quR p xss = [] by simp [quR, hd], show quC p xss = 1 by simp [quC, hd]]
    have HO := Lib.hid hO
    clear hO hd hX hB0 hr hn
    go_enter Tryz.func6, Tryz.ntmps6
    go_wp2_with fail
    refine (HO.out).mono ?_
    rintro e w2 ⟨rfl, hb2⟩
    have HB2 := Lib.hid (HB0.out.trans (hb2.mono HB0.out.size))
    clear hb2
    go_wp2
    go_ret2
    exact ⟨⟨none, 0, 0, fun _ => (none, 0), rfl, rfl, OwnM.nil_ _ _ _⟩, HB2.out⟩
  rw [hd] at hO
  have hT := trip_dsg hd
  obtain ⟨P, rfl⟩ : ∃ P : Nat, p = (P : Int) := ⟨p.toNat, by have := hT.1.1.1; omega⟩
  obtain ⟨hD, hTs⟩ := trip_sys hd
  rw [show quR (P : Int) xss = qdR xss by simp [quR, hd], show quC (P : Int) xss = 0 by simp [quC, hd]]
  have HO := Lib.hid hO
  have HPs := Lib.hid (fun (W : World) (hx : BoxD W w.heap.size (P : Int) A n c) (hb : Below w.heap.size w W) => l11Paschs_c W w.heap.size P A n c R xss hx (hr.below hb) hn hD hTs)
  clear hO hd hX hB0 hr hn hD hTs hT
  go_enter Tryz.func6, Tryz.ntmps6
  go_wp2_with fail
  refine (HO.out).mono ?_
  rintro e w2 ⟨rfl, hb2⟩
  have HX2 := Lib.hid (HX.out.below hb2)
  have HB2 := Lib.hid (HB0.out.trans (hb2.mono HB0.out.size))
  clear hb2
  go_wp2_with fail
  refine (HPs.out w2 HX2.out HB2.out).mono ?_
  rintro e w3 ⟨⟨A3, n3, c3, R3, rfl, hn3, ho3⟩, hb3⟩
  have HB3 := Lib.hid (HB2.out.trans (hb3.mono HB2.out.size))
  have HO3 := Lib.hid (ho3.lower (lo' := w.heap.size) HB2.out.size)
  have HN3 := Lib.hid hn3
  clear hb3 ho3 hn3
  go_wp2
  go_ret2
  exact ⟨⟨A3, n3, c3, R3, rfl, HN3.out, HO3.out⟩, HB3.out⟩
end Go.Proofs.YtmmkmkbpgcbehaaGreat
