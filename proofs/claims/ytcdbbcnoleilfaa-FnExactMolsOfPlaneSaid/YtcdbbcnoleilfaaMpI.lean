/-
  MolsOfPlane of the program. Conditions: those of each theorem.
-/
import Derived.Test.YtcdbbcnoleilfaaMpP
import Derived.Test.YtcdbbcnoleilfaaPcI
namespace Go.Proofs.Ytcdbbcnoleilfaa
open Go.RowKit
set_option linter.unusedVariables false
set_option linter.unusedSimpArgs false

set_option maxHeartbeats 2000000 in
/-- The block k holds the point p. -/
theorem mo2_c (W : World) (Bd Bp : Nat) (A : Option Addr) (n c k : Nat) (R : Spine) (xss : List (List Int)) (p : Int) (hX : W.cell? ⟨Bd, 1, none⟩ = some (.slice A n c)) (hr : RdM W A c R xss) (hn : xss.length = n)
    (hP : W.cell? ⟨Bp, 0, none⟩ = some (.int .i64 p)) (hk : k < n) :
    Calls Try.prog 74 #[.int .i64 (k : Int), .pointer (some ⟨Bd, 0, none⟩), .pointer (some ⟨Bp, 0, none⟩)] W (PostV W (.bool (hasB (row xss k) p))) := by
  have HCo := Lib.hid (fun (q : Nat) => contains_c (W.drewN q) (R k).1 (row xss k).length (R k).2 (row xss k) p ((hr.rows k (by omega)).drewN q) rfl)
  obtain ⟨b, off, e, hb, hcl⟩ := hr.open2 (by omega)
  have hck := hcl k (by omega)
  have hk0 : (0 : Int) ≤ (k : Int) := by omega
  have hk1 : (k : Int) < (n : Int) := by omega
  subst e
  clear hcl hr hn
  go_enter Try.func74, Try.ntmps74
  go_wp2
  go_quiet ((go_at_call 75; first | (with_reducible exact quiet_drN (HCo.out _)) | (with_reducible exact quiet_dr (HCo.out _)) | (with_reducible exact quiet_w2 (HCo.out _))))
  go_wp2
  go_ret
  exact ⟨rfl, below_drewN (Below.refl _ _) _⟩

set_option maxRecDepth 100000 in
set_option maxHeartbeats 8000000 in
/-- The place of the class's block that holds the point where block x of the first class and block y of the second meet. -/
theorem mo1_c (W : World) (Bd Bc Bk P K : Nat) (A A2 : Option Addr) (n c n2 c2 cc : Nat) (R R2 : Spine) (xss C : List (List Int)) (x y : Nat)
    (hX : W.cell? ⟨Bd, 1, none⟩ = some (.slice A n c)) (hr : RdM W A c R xss) (hn : xss.length = n)
    (hC : W.cell? ⟨Bc, 0, none⟩ = some (.slice A2 n2 c2)) (hr2 : RdM W A2 c2 R2 C) (hn2 : C.length = n2) (hc2 : cc + 2 < n2)
    (hB : W.cell? ⟨Bk, 0, none⟩ = some (.slice (R2 (cc + 2)).1 (row C (cc + 2)).length (R2 (cc + 2)).2))
    (hI : Inc P xss.length K (lnB xss)) (hR : RowsOk P xss) (hok : ClsOk P xss C xss.length) (hx : x < K) (hy : y < K) :
    Calls Try.prog 71 #[.int .i64 (x : Int), .int .i64 (y : Int), .pointer (some ⟨Bd, 0, none⟩), .pointer (some ⟨Bc, 0, none⟩), .pointer (some ⟨Bk, 0, none⟩)] W (PostV W (.int .i64 (mpF xss C (cc + 2) x y))) := by
  have hmf : ∀ (fn : Fn) (first cap : Array Value) (w : World), (Instr.makeFunc fn first cap).run Try.prog w = .ok (.func fn first cap) w := fun _ _ _ _ => rfl
  have eg := Lib.hid (enters_of Try.func74 (by kernel_rfl) rfl : ∀ args w, (callFunc 74 args).run Try.prog w = .ok (.enter 74 args) w)
  obtain ⟨hx1, hx2⟩ := hok.cell hI (c := 0) (by omega) hx
  obtain ⟨hy1, hy2⟩ := hok.cell hI (c := 1) (by omega) hy
  obtain ⟨hm0, p, hp, hpe, hp0, hp1⟩ := hok.cross hI hR hx hy
  have hl0 := hok.len hI (c := 0) (by omega)
  have hl1 := hok.len hI (c := 1) (by omega)
  have hl2 := hok.len hI (c := cc + 2) (by omega)
  have hF : mpF xss C (cc + 2) x y = firstIdx (fun i => hasB (row xss (cN C (cc + 2) i)) (p : Int)) K := by unfold mpF; rw [hpe, hl2]
  have hpe2 : nth (meetL (row xss (cN C 0 x)) (row xss (cN C 1 y))) 0 = (p : Int) := hpe
  have HCl := Lib.hid (fun i (hi : i < K) => hok.cell hI (c := cc + 2) (by omega) hi)
  generalize hgx : cN C 0 x = ix at *
  generalize hgy : cN C 1 y = iy at *
  obtain ⟨b, off, e, hb, hcl⟩ := hr.open2 (by omega)
  have hcx := hcl ix hx2
  have hcy := hcl iy hy2
  obtain ⟨b2, off2, e2, hb2, hcl2⟩ := hr2.open2 (by omega)
  have hd0 := hcl2 0 (by omega)
  have hd1 := hcl2 1 (by omega)
  obtain ⟨b3, off3, e3, hb3, hc3⟩ := (hr2.rows 0 (by omega)).at_ x (by omega)
  obtain ⟨b4, off4, e4, hb4, hc4⟩ := (hr2.rows 1 (by omega)).at_ y (by omega)
  rw [hx1] at hc3
  rw [hy1] at hc4
  rw [hl0, e3] at hd0
  rw [hl1, e4] at hd1
  rw [show off2 + 0 = off2 by omega] at hd0
  have hbd := cell_size hX
  have hbc := cell_size hC
  have hbk := cell_size hB
  have hix0 : (0 : Int) ≤ (ix : Int) := by omega
  have hix1 : (ix : Int) < (n : Int) := by omega
  have hiy0 : (0 : Int) ≤ (iy : Int) := by omega
  have hiy1 : (iy : Int) < (n : Int) := by omega
  have hxx0 : (0 : Int) ≤ (x : Int) := by omega
  have hxx1 : (x : Int) < (K : Int) := by omega
  have hyy0 : (0 : Int) ≤ (y : Int) := by omega
  have hyy1 : (y : Int) < (K : Int) := by omega
  have hn20 : (0 : Int) < (n2 : Int) := by omega
  have hn21 : (1 : Int) < (n2 : Int) := by omega
  have hn2p : 0 < n2 := by omega
  have HMe := Lib.hid (fun (W' : World) (hb : Below W.heap.size W W') => MeetSets_c W' (R ix).1 (R iy).1 (row xss ix).length (row xss iy).length (R ix).2 (R iy).2 (row xss ix) (row xss iy) ((hr.below hb).rows ix (by omega)) rfl ((hr.below hb).rows iy (by omega)) rfl)
  have HS := Lib.hid (fun (W' : World) (hw : Below W.heap.size W W') => (⟨(hw.cell (p := ⟨Bd, 1, none⟩) hbd).trans hX, (hw.cell (p := ⟨Bc, 0, none⟩) hbc).trans hC, (hw.cell (p := ⟨b, off + ix, none⟩) hb).trans hcx, (hw.cell (p := ⟨b, off + iy, none⟩) hb).trans hcy, (hw.cell (p := ⟨b2, off2, none⟩) hb2).trans hd0, (hw.cell (p := ⟨b2, off2 + 1, none⟩) hb2).trans hd1, (hw.cell (p := ⟨b3, off3 + x, none⟩) hb3).trans hc3, (hw.cell (p := ⟨b4, off4 + y, none⟩) hb4).trans hc4⟩ : W'.cell? ⟨Bd, 1, none⟩ = _ ∧ W'.cell? ⟨Bc, 0, none⟩ = _ ∧ W'.cell? ⟨b, off + ix, none⟩ = _ ∧ W'.cell? ⟨b, off + iy, none⟩ = _ ∧ W'.cell? ⟨b2, off2, none⟩ = _ ∧ W'.cell? ⟨b2, off2 + 1, none⟩ = _ ∧ W'.cell? ⟨b3, off3 + x, none⟩ = _ ∧ W'.cell? ⟨b4, off4 + y, none⟩ = _))
  have HBz := Lib.hid (show Below W.heap.size W ((W.alloc (.cells #[.int .i64 0] 2)).drew) from ((Below.refl _ _).alloc (Nat.le_refl _) _).drew)
  have HBd := Lib.hid (show Below W.heap.size W W.drew from (Below.refl _ _).drew)
  have HR := Lib.hid hr
  have HR2 := Lib.hid hr2
  have HN := Lib.hid hn
  have HN2 := Lib.hid hn2
  have HX := Lib.hid hX
  have HB := Lib.hid hB
  have HL2 := Lib.hid hl2
  have hml : 0 < (meetL (row xss ix) (row xss iy)).length := hm0
  rw [hF]
  subst e e2
  clear hcl hcl2 hr hr2 hn hn2 hI hR hok hx1 hy1 hl0 hl1 hl2 hF hpe hm0 hp0 hp1 hgx hgy hB e3 e4
  generalize (R2 0).2 = c30 at *
  generalize (R2 1).2 = c31 at *
  generalize meetL (row xss ix) (row xss iy) = ml at *
  generalize row xss ix = rx at *
  generalize row xss iy = ry at *
  go_enter Try.func71, Try.ntmps71
  go_wp2
  refine wp_region_noPanic ?_
  refine wp_region_held_drew (S := (fun w' => w'.cell? ⟨Bd, 1, none⟩ = some (.slice (some ⟨b, off, none⟩) n c) ∧ w'.cell? ⟨Bc, 0, none⟩ = some (.slice (some ⟨b2, off2, none⟩) n2 c2) ∧ w'.cell? ⟨b, off + ix, none⟩ = some (.slice (R ix).1 rx.length (R ix).2) ∧ w'.cell? ⟨b, off + iy, none⟩ = some (.slice (R iy).1 ry.length (R iy).2) ∧ w'.cell? ⟨b2, off2, none⟩ = some (.slice (some ⟨b3, off3, none⟩) K c30) ∧ w'.cell? ⟨b2, off2 + 1, none⟩ = some (.slice (some ⟨b4, off4, none⟩) K c31) ∧ w'.cell? ⟨b3, off3 + x, none⟩ = some (.int .i64 (ix : Int)) ∧ w'.cell? ⟨b4, off4 + y, none⟩ = some (.int .i64 (iy : Int)))) (by kernel_rfl) (HS.out _ HBd.out) (fun hHeld => ?_)
  refine wpAnyH_take (i := 0) (v := ?_) rfl (by kernel_rfl) (by kernel_rfl) (by kernel_rfl) (fun _ _ _ h => h) (Or.inl ⟨by rfl, ?_⟩) hHeld ?_
  rotate_left
  · (intro w hSw; (try dsimp only at hSw); (go_simp <;> with_reducible rfl))
  try simp only [Act.put, List.getElem_toArray, List.getElem_cons_succ, List.getElem_cons_zero, List.setIfInBounds_toArray, List.set_cons_zero, List.set_cons_succ]
  refine wpAnyH_take (i := 1) (v := ?_) rfl (by kernel_rfl) (by kernel_rfl) (by kernel_rfl) (fun _ _ _ h => h) (Or.inl ⟨by rfl, ?_⟩) hHeld ?_
  rotate_left
  · (intro w hSw; (try dsimp only at hSw); (go_simp <;> with_reducible rfl))
  try simp only [Act.put, List.getElem_toArray, List.getElem_cons_succ, List.getElem_cons_zero, List.setIfInBounds_toArray, List.set_cons_zero, List.set_cons_succ]
  refine wpAnyH_take (i := 2) (v := ?_) rfl (by kernel_rfl) (by kernel_rfl) (by kernel_rfl) (fun _ _ _ h => h) (Or.inl ⟨by rfl, ?_⟩) hHeld ?_
  rotate_left
  · (intro w hSw; (try dsimp only at hSw); (go_simp <;> with_reducible rfl))
  try simp only [Act.put, List.getElem_toArray, List.getElem_cons_succ, List.getElem_cons_zero, List.setIfInBounds_toArray, List.set_cons_zero, List.set_cons_succ]
  refine wpAnyH_take (i := 5) (v := ?_) rfl (by kernel_rfl) (by kernel_rfl) (by kernel_rfl) (fun _ _ _ h => h) (Or.inl ⟨by rfl, ?_⟩) hHeld ?_
  rotate_left
  · (intro w hSw; (try dsimp only at hSw); (go_simp <;> with_reducible rfl))
  try simp only [Act.put, List.getElem_toArray, List.getElem_cons_succ, List.getElem_cons_zero, List.setIfInBounds_toArray, List.set_cons_zero, List.set_cons_succ]
  refine wpAnyH_take (i := 10) (v := ?_) rfl (by kernel_rfl) (by kernel_rfl) (by kernel_rfl) (fun _ _ _ h => h) (Or.inl ⟨by rfl, ?_⟩) hHeld ?_
  rotate_left
  · (intro w hSw; (try dsimp only at hSw); (go_simp <;> with_reducible rfl))
  try simp only [Act.put, List.getElem_toArray, List.getElem_cons_succ, List.getElem_cons_zero, List.setIfInBounds_toArray, List.set_cons_zero, List.set_cons_succ]
  refine wpAnyH_take (i := 11) (v := ?_) rfl (by kernel_rfl) (by kernel_rfl) (by kernel_rfl) (fun _ _ _ h => h) (Or.inl ⟨by rfl, ?_⟩) hHeld ?_
  rotate_left
  · (intro w hSw; (try dsimp only at hSw); (go_simp <;> with_reducible rfl))
  try simp only [Act.put, List.getElem_toArray, List.getElem_cons_succ, List.getElem_cons_zero, List.setIfInBounds_toArray, List.set_cons_zero, List.set_cons_succ]
  refine wpAnyH_take (i := 12) (v := ?_) rfl (by kernel_rfl) (by kernel_rfl) (by kernel_rfl) (fun _ _ _ h => h) (Or.inl ⟨by rfl, ?_⟩) hHeld ?_
  rotate_left
  · (intro w hSw; (try dsimp only at hSw); (go_simp <;> with_reducible rfl))
  try simp only [Act.put, List.getElem_toArray, List.getElem_cons_succ, List.getElem_cons_zero, List.setIfInBounds_toArray, List.set_cons_zero, List.set_cons_succ]
  refine wpAnyH_take (i := 13) (v := ?_) rfl (by kernel_rfl) (by kernel_rfl) (by kernel_rfl) (fun _ _ _ h => h) (Or.inl ⟨by rfl, ?_⟩) hHeld ?_
  rotate_left
  · (intro w hSw; (try dsimp only at hSw); (go_simp <;> with_reducible rfl))
  try simp only [Act.put, List.getElem_toArray, List.getElem_cons_succ, List.getElem_cons_zero, List.setIfInBounds_toArray, List.set_cons_zero, List.set_cons_succ]
  refine wpAnyH_take (i := 14) (v := ?_) rfl (by kernel_rfl) (by kernel_rfl) (by kernel_rfl) (fun _ _ _ h => h) (Or.inl ⟨by rfl, ?_⟩) hHeld ?_
  rotate_left
  · (intro w hSw; (try dsimp only at hSw); (go_simp <;> with_reducible rfl))
  try simp only [Act.put, List.getElem_toArray, List.getElem_cons_succ, List.getElem_cons_zero, List.setIfInBounds_toArray, List.set_cons_zero, List.set_cons_succ]
  refine wpAnyH_take (i := 15) (v := ?_) rfl (by kernel_rfl) (by kernel_rfl) (by kernel_rfl) (fun _ _ _ h => h) (Or.inl ⟨by rfl, ?_⟩) hHeld ?_
  rotate_left
  · (intro w hSw; (try dsimp only at hSw); (go_simp <;> with_reducible rfl))
  try simp only [Act.put, List.getElem_toArray, List.getElem_cons_succ, List.getElem_cons_zero, List.setIfInBounds_toArray, List.set_cons_zero, List.set_cons_succ]
  refine wpAnyH_take (i := 16) (v := ?_) rfl (by kernel_rfl) (by kernel_rfl) (by kernel_rfl) (fun _ _ _ h => h) (Or.inl ⟨by rfl, ?_⟩) hHeld ?_
  rotate_left
  · (intro w hSw; (try dsimp only at hSw); (go_simp <;> with_reducible rfl))
  try simp only [Act.put, List.getElem_toArray, List.getElem_cons_succ, List.getElem_cons_zero, List.setIfInBounds_toArray, List.set_cons_zero, List.set_cons_succ]
  refine wpAnyH_take (i := 17) (v := ?_) rfl (by kernel_rfl) (by kernel_rfl) (by kernel_rfl) (fun _ _ _ h => h) (Or.inl ⟨by rfl, ?_⟩) hHeld ?_
  rotate_left
  · (intro w hSw; (try dsimp only at hSw); (go_simp <;> with_reducible rfl))
  try simp only [Act.put, List.getElem_toArray, List.getElem_cons_succ, List.getElem_cons_zero, List.setIfInBounds_toArray, List.set_cons_zero, List.set_cons_succ]
  refine wpAnyH_take (i := 18) (v := ?_) rfl (by kernel_rfl) (by kernel_rfl) (by kernel_rfl) (fun _ _ _ h => h) (Or.inl ⟨by rfl, ?_⟩) hHeld ?_
  rotate_left
  · (intro w hSw; (try dsimp only at hSw); (go_simp <;> with_reducible rfl))
  try simp only [Act.put, List.getElem_toArray, List.getElem_cons_succ, List.getElem_cons_zero, List.setIfInBounds_toArray, List.set_cons_zero, List.set_cons_succ]
  refine wpAnyH_take (i := 19) (v := ?_) rfl (by kernel_rfl) (by kernel_rfl) (by kernel_rfl) (fun _ _ _ h => h) (Or.inl ⟨by rfl, ?_⟩) hHeld ?_
  rotate_left
  · (intro w hSw; (try dsimp only at hSw); (go_simp <;> with_reducible rfl))
  try simp only [Act.put, List.getElem_toArray, List.getElem_cons_succ, List.getElem_cons_zero, List.setIfInBounds_toArray, List.set_cons_zero, List.set_cons_succ]
  refine wpAnyH_take (i := 3) (v := ?_) rfl (by kernel_rfl) (by kernel_rfl) (by kernel_rfl) (fun _ _ _ h => h) (Or.inl ⟨by rfl, ?_⟩) hHeld ?_
  rotate_left
  · (intro w hSw; (try dsimp only at hSw); (go_simp <;> with_reducible rfl))
  try simp only [Act.put, List.getElem_toArray, List.getElem_cons_succ, List.getElem_cons_zero, List.setIfInBounds_toArray, List.set_cons_zero, List.set_cons_succ]
  refine wpAnyH_take (i := 4) (v := ?_) rfl (by kernel_rfl) (by kernel_rfl) (by kernel_rfl) (fun _ _ _ h => h) (Or.inl ⟨by rfl, ?_⟩) hHeld ?_
  rotate_left
  · (intro w hSw; (try dsimp only at hSw); (go_simp <;> with_reducible rfl))
  try simp only [Act.put, List.getElem_toArray, List.getElem_cons_succ, List.getElem_cons_zero, List.setIfInBounds_toArray, List.set_cons_zero, List.set_cons_succ]
  refine wpAnyH_take (i := 6) (v := ?_) rfl (by kernel_rfl) (by kernel_rfl) (by kernel_rfl) (fun _ _ _ h => h) (Or.inl ⟨by rfl, ?_⟩) hHeld ?_
  rotate_left
  · (intro w hSw; (try dsimp only at hSw); (go_simp <;> with_reducible rfl))
  try simp only [Act.put, List.getElem_toArray, List.getElem_cons_succ, List.getElem_cons_zero, List.setIfInBounds_toArray, List.set_cons_zero, List.set_cons_succ]
  refine wpAnyH_take (i := 7) (v := ?_) rfl (by kernel_rfl) (by kernel_rfl) (by kernel_rfl) (fun _ _ _ h => h) (Or.inl ⟨by rfl, ?_⟩) hHeld ?_
  rotate_left
  · (intro w hSw; (try dsimp only at hSw); (go_simp <;> with_reducible rfl))
  try simp only [Act.put, List.getElem_toArray, List.getElem_cons_succ, List.getElem_cons_zero, List.setIfInBounds_toArray, List.set_cons_zero, List.set_cons_succ]
  refine wpAnyH_take (i := 8) (v := ?_) rfl (by kernel_rfl) (by kernel_rfl) (by kernel_rfl) (fun _ _ _ h => h) (Or.inl ⟨by rfl, ?_⟩) hHeld ?_
  rotate_left
  · (intro w hSw; (try dsimp only at hSw); (go_simp <;> with_reducible rfl))
  try simp only [Act.put, List.getElem_toArray, List.getElem_cons_succ, List.getElem_cons_zero, List.setIfInBounds_toArray, List.set_cons_zero, List.set_cons_succ]
  refine wpAnyH_take (i := 9) (v := ?_) rfl (by kernel_rfl) (by kernel_rfl) (by kernel_rfl) (fun _ _ _ h => h) (Or.inl ⟨by rfl, ?_⟩) hHeld ?_
  rotate_left
  · (intro w hSw; (try dsimp only at hSw); (go_simp <;> with_reducible rfl))
  try simp only [Act.put, List.getElem_toArray, List.getElem_cons_succ, List.getElem_cons_zero, List.setIfInBounds_toArray, List.set_cons_zero, List.set_cons_succ]
  refine wpAnyH_ready (rs := [20, 23]) (by kernel_rfl) (by simp) ?_
  refine AllReadyH.cons rfl (fun K hK => ?_) ?_
  · go_simp
    refine (HMe.out _ HBd.out).mono ?_
    rintro e w5 ⟨⟨A5, n5, c5, rfl, hn5, ho5⟩, hb5⟩
    obtain ⟨g5, rfl, hlo5, hg5, hc5, _⟩ := ho5.at_ (k := 0) hml
    rw [hpe2] at hc5
    have hn5p : 0 < n5 := by rw [← hn5]; exact hml
    have hn5i : (0 : Int) < (n5 : Int) := by omega
    have hbl : Below W.heap.size W w5 := HBd.out.trans hb5
    have hbla : Below W.heap.size W (w5.alloc (.cells #[.int .i64 0] 2)) := hbl.alloc hbl.size _
    have hca : (w5.alloc (.cells #[.int .i64 0] 2)).cell? ⟨g5, 0, none⟩ = some (.int .i64 (p : Int)) := by rw [← hc5]; exact Below.cell ((Below.refl w5.heap.size w5).alloc (Nat.le_refl _) _) hg5
    have hbls : Below W.heap.size W (w5.alloc (.cells #[.int .i64 (p : Int)] 2)) := hbl.alloc hbl.size _
    have hcs : (w5.alloc (.cells #[.int .i64 (p : Int)] 2)).cell? ⟨w5.heap.size, 0, none⟩ = some (.int .i64 (p : Int)) := by simp [go_sem]
    try go_wp2_with fail
    refine hK.out _ _ (HS.out _ hbl) (fun hHeld => ?_)
    clear hK K
    try simp only [Act.put, List.getElem_toArray, List.getElem_cons_succ, List.getElem_cons_zero, List.setIfInBounds_toArray, List.set_cons_zero, List.set_cons_succ]
    refine wpAnyH_take (i := 21) (v := ?_) rfl (by kernel_rfl) (by kernel_rfl) (by kernel_rfl) (fun _ _ _ h => h) (Or.inl ⟨by rfl, ?_⟩) hHeld ?_
    rotate_left
    · (intro w hSw; (try dsimp only at hSw); (go_simp <;> with_reducible rfl))
    try simp only [Act.put, List.getElem_toArray, List.getElem_cons_succ, List.getElem_cons_zero, List.setIfInBounds_toArray, List.set_cons_zero, List.set_cons_succ]
    refine wpAnyH_ready (rs := [22, 23]) (by kernel_rfl) (by simp) ?_
    refine AllReadyH.cons rfl (fun K hK => ?_) ?_
    · go_simp
      refine hK.out _ _ (HS.out _ hbl) (fun hHeld => ?_)
      clear hK K
      try simp only [Act.put, List.getElem_toArray, List.getElem_cons_succ, List.getElem_cons_zero, List.setIfInBounds_toArray, List.set_cons_zero, List.set_cons_succ]
      refine wpAnyH_ready (rs := [23]) (by kernel_rfl) (by simp) ?_
      refine AllReadyH.cons rfl (fun K hK => ?_) ?_
      · go_simp
        refine hK.out _ _ (HS.out _ hbla) (fun hHeld => ?_)
        clear hK K
        try simp only [Act.put, List.getElem_toArray, List.getElem_cons_succ, List.getElem_cons_zero, List.setIfInBounds_toArray, List.set_cons_zero, List.set_cons_succ]
        refine wpAnyH_ready (rs := [24]) (by kernel_rfl) (by simp) ?_
        refine AllReadyH.cons rfl (fun K hK => ?_) ?_
        · go_simp
          refine hK.out _ _ (HS.out _ hbls) (fun hHeld => ?_)
          clear hK K
          try simp only [Act.put, List.getElem_toArray, List.getElem_cons_succ, List.getElem_cons_zero, List.setIfInBounds_toArray, List.set_cons_zero, List.set_cons_succ]
          refine wpAnyH_done (by kernel_rfl) ?_ _
          refine NoPanic.normal ?_
          generalize hW6 : (w5.alloc (.cells #[.int .i64 (p : Int)] 2)) = W6 at *
          have HB6 := Lib.hid hbls
          have HP6 := Lib.hid hcs
          have hbk6 := (HB6.out.cell (p := ⟨Bk, 0, none⟩) hbk).trans HB.out
          rw [HL2.out] at hbk6
          have HIx := Lib.hid (indexFuncI W6 (R2 (cc + 2)).1 K (R2 (cc + 2)).2 (row C (cc + 2)) 74 #[.pointer (some ⟨Bd, 0, none⟩), .pointer (some ⟨w5.heap.size, 0, none⟩)] (fun i => hasB (row xss (cN C (cc + 2) i)) (p : Int)) eg.out ((HR2.out.below HB6.out).rows (cc + 2) (by have := HN2.out; omega)) HL2.out (fun V i hi hb2 => by
            have h1 := HCl.out i hi
            rw [h1.1]
            have hbv := HB6.out.trans (hb2.mono HB6.out.size)
            exact mo2_c V Bd w5.heap.size _ n c _ R xss (p : Int) ((hbv.cell (p := ⟨Bd, 1, none⟩) hbd).trans HX.out) (HR.out.below hbv) HN.out ((hb2.cell (p := ⟨w5.heap.size, 0, none⟩) (cell_size HP6.out)).trans HP6.out) (by have := HN.out; omega)))
          clear hW6 hc5 ho5 hb5 hn5 hlo5 hg5 hbl hbls hcs
          go_wp2_with fail
          refine (HIx.out).mono ?_
          rintro e w7 ⟨rfl, hb7⟩
          have HB7 := Lib.hid (HB6.out.trans (hb7.mono HB6.out.size))
          clear hb7
          go_wp2
          go_ret
          exact ⟨rfl, HB7.out⟩
        exact AllReadyH.nil
      exact AllReadyH.nil
    refine AllReadyH.cons rfl (fun K hK => ?_) ?_
    · go_simp
      refine hK.out _ _ (HS.out _ hbla) (fun hHeld => ?_)
      clear hK K
      try simp only [Act.put, List.getElem_toArray, List.getElem_cons_succ, List.getElem_cons_zero, List.setIfInBounds_toArray, List.set_cons_zero, List.set_cons_succ]
      refine wpAnyH_ready (rs := [22]) (by kernel_rfl) (by simp) ?_
      refine AllReadyH.cons rfl (fun K hK => ?_) ?_
      · go_simp
        refine hK.out _ _ (HS.out _ hbla) (fun hHeld => ?_)
        clear hK K
        try simp only [Act.put, List.getElem_toArray, List.getElem_cons_succ, List.getElem_cons_zero, List.setIfInBounds_toArray, List.set_cons_zero, List.set_cons_succ]
        refine wpAnyH_ready (rs := [24]) (by kernel_rfl) (by simp) ?_
        refine AllReadyH.cons rfl (fun K hK => ?_) ?_
        · go_simp
          refine hK.out _ _ (HS.out _ hbls) (fun hHeld => ?_)
          clear hK K
          try simp only [Act.put, List.getElem_toArray, List.getElem_cons_succ, List.getElem_cons_zero, List.setIfInBounds_toArray, List.set_cons_zero, List.set_cons_succ]
          refine wpAnyH_done (by kernel_rfl) ?_ _
          refine NoPanic.normal ?_
          generalize hW6 : (w5.alloc (.cells #[.int .i64 (p : Int)] 2)) = W6 at *
          have HB6 := Lib.hid hbls
          have HP6 := Lib.hid hcs
          have hbk6 := (HB6.out.cell (p := ⟨Bk, 0, none⟩) hbk).trans HB.out
          rw [HL2.out] at hbk6
          have HIx := Lib.hid (indexFuncI W6 (R2 (cc + 2)).1 K (R2 (cc + 2)).2 (row C (cc + 2)) 74 #[.pointer (some ⟨Bd, 0, none⟩), .pointer (some ⟨w5.heap.size, 0, none⟩)] (fun i => hasB (row xss (cN C (cc + 2) i)) (p : Int)) eg.out ((HR2.out.below HB6.out).rows (cc + 2) (by have := HN2.out; omega)) HL2.out (fun V i hi hb2 => by
            have h1 := HCl.out i hi
            rw [h1.1]
            have hbv := HB6.out.trans (hb2.mono HB6.out.size)
            exact mo2_c V Bd w5.heap.size _ n c _ R xss (p : Int) ((hbv.cell (p := ⟨Bd, 1, none⟩) hbd).trans HX.out) (HR.out.below hbv) HN.out ((hb2.cell (p := ⟨w5.heap.size, 0, none⟩) (cell_size HP6.out)).trans HP6.out) (by have := HN.out; omega)))
          clear hW6 hc5 ho5 hb5 hn5 hlo5 hg5 hbl hbls hcs
          go_wp2_with fail
          refine (HIx.out).mono ?_
          rintro e w7 ⟨rfl, hb7⟩
          have HB7 := Lib.hid (HB6.out.trans (hb7.mono HB6.out.size))
          clear hb7
          go_wp2
          go_ret
          exact ⟨rfl, HB7.out⟩
        exact AllReadyH.nil
      exact AllReadyH.nil
    exact AllReadyH.nil
  refine AllReadyH.cons rfl (fun K hK => ?_) ?_
  · go_simp
    refine hK.out _ _ (HS.out _ HBz.out) (fun hHeld => ?_)
    clear hK K
    try simp only [Act.put, List.getElem_toArray, List.getElem_cons_succ, List.getElem_cons_zero, List.setIfInBounds_toArray, List.set_cons_zero, List.set_cons_succ]
    refine wpAnyH_ready (rs := [20]) (by kernel_rfl) (by simp) ?_
    refine AllReadyH.cons rfl (fun K hK => ?_) ?_
    · go_simp
      refine (HMe.out _ HBz.out).mono ?_
      rintro e w5 ⟨⟨A5, n5, c5, rfl, hn5, ho5⟩, hb5⟩
      obtain ⟨g5, rfl, hlo5, hg5, hc5, _⟩ := ho5.at_ (k := 0) hml
      rw [hpe2] at hc5
      have hn5p : 0 < n5 := by rw [← hn5]; exact hml
      have hn5i : (0 : Int) < (n5 : Int) := by omega
      have hbl : Below W.heap.size W w5 := HBz.out.trans (hb5.mono HBz.out.size)
      have hcb : w5.cell? ⟨W.heap.size, 0, none⟩ = some (.int .i64 0) := (hb5.cell (p := ⟨W.heap.size, 0, none⟩) (by simp)).trans (by simp [go_sem])
      have hfb : w5.frozen? ⟨W.heap.size, 0, none⟩ = false := (hb5.frozen (p := ⟨W.heap.size, 0, none⟩) (by simp)).trans (by simp [go_sem])
      have hbls : Below W.heap.size W (w5.setCell ⟨W.heap.size, 0, none⟩ (.int .i64 (p : Int))) := hbl.setCell (p := ⟨W.heap.size, 0, none⟩) (Nat.le_refl _) _
      have hcs : (w5.setCell ⟨W.heap.size, 0, none⟩ (.int .i64 (p : Int))).cell? ⟨W.heap.size, 0, none⟩ = some (.int .i64 (p : Int)) := by simp [go_sem, hcb, hfb]
      try go_wp2_with fail
      refine hK.out _ _ (HS.out _ hbl) (fun hHeld => ?_)
      clear hK K
      try simp only [Act.put, List.getElem_toArray, List.getElem_cons_succ, List.getElem_cons_zero, List.setIfInBounds_toArray, List.set_cons_zero, List.set_cons_succ]
      refine wpAnyH_take (i := 21) (v := ?_) rfl (by kernel_rfl) (by kernel_rfl) (by kernel_rfl) (fun _ _ _ h => h) (Or.inl ⟨by rfl, ?_⟩) hHeld ?_
      rotate_left
      · (intro w hSw; (try dsimp only at hSw); (go_simp <;> with_reducible rfl))
      try simp only [Act.put, List.getElem_toArray, List.getElem_cons_succ, List.getElem_cons_zero, List.setIfInBounds_toArray, List.set_cons_zero, List.set_cons_succ]
      refine wpAnyH_ready (rs := [22]) (by kernel_rfl) (by simp) ?_
      refine AllReadyH.cons rfl (fun K hK => ?_) ?_
      · go_simp
        refine hK.out _ _ (HS.out _ hbl) (fun hHeld => ?_)
        clear hK K
        try simp only [Act.put, List.getElem_toArray, List.getElem_cons_succ, List.getElem_cons_zero, List.setIfInBounds_toArray, List.set_cons_zero, List.set_cons_succ]
        refine wpAnyH_ready (rs := [24]) (by kernel_rfl) (by simp) ?_
        refine AllReadyH.cons rfl (fun K hK => ?_) ?_
        · go_simp
          refine hK.out _ _ (HS.out _ hbls) (fun hHeld => ?_)
          clear hK K
          try simp only [Act.put, List.getElem_toArray, List.getElem_cons_succ, List.getElem_cons_zero, List.setIfInBounds_toArray, List.set_cons_zero, List.set_cons_succ]
          refine wpAnyH_done (by kernel_rfl) ?_ _
          refine NoPanic.normal ?_
          generalize hW6 : (w5.setCell ⟨W.heap.size, 0, none⟩ (.int .i64 (p : Int))) = W6 at *
          have HB6 := Lib.hid hbls
          have HP6 := Lib.hid hcs
          have hbk6 := (HB6.out.cell (p := ⟨Bk, 0, none⟩) hbk).trans HB.out
          rw [HL2.out] at hbk6
          have HIx := Lib.hid (indexFuncI W6 (R2 (cc + 2)).1 K (R2 (cc + 2)).2 (row C (cc + 2)) 74 #[.pointer (some ⟨Bd, 0, none⟩), .pointer (some ⟨W.heap.size, 0, none⟩)] (fun i => hasB (row xss (cN C (cc + 2) i)) (p : Int)) eg.out ((HR2.out.below HB6.out).rows (cc + 2) (by have := HN2.out; omega)) HL2.out (fun V i hi hb2 => by
            have h1 := HCl.out i hi
            rw [h1.1]
            have hbv := HB6.out.trans (hb2.mono HB6.out.size)
            exact mo2_c V Bd W.heap.size _ n c _ R xss (p : Int) ((hbv.cell (p := ⟨Bd, 1, none⟩) hbd).trans HX.out) (HR.out.below hbv) HN.out ((hb2.cell (p := ⟨W.heap.size, 0, none⟩) (cell_size HP6.out)).trans HP6.out) (by have := HN.out; omega)))
          clear hW6 hc5 ho5 hb5 hn5 hlo5 hg5 hbl hbls hcs
          go_wp2_with fail
          refine (HIx.out).mono ?_
          rintro e w7 ⟨rfl, hb7⟩
          have HB7 := Lib.hid (HB6.out.trans (hb7.mono HB6.out.size))
          clear hb7
          go_wp2
          go_ret
          exact ⟨rfl, HB7.out⟩
        exact AllReadyH.nil
      exact AllReadyH.nil
    exact AllReadyH.nil
  exact AllReadyH.nil

set_option maxRecDepth 100000 in
set_option maxHeartbeats 8000000 in
theorem implMolsOfPlane_c (w : World) (p : Int) (hp : -9223372036854775808 ≤ p ∧ p ≤ 9223372036854775807) (A : Option Addr) (n c : Nat) (R : Spine) (xss : List (List Int)) (hr : RdM w A c R xss) (hn : xss.length = n) (hw : WfM xss) (hz : (n : Int) + (tot xss : Nat) ≤ 1048576) :
    Calls Try.prog 32 #[.agg #[.int .i64 p, .slice A n c]] w (PostLC w (moX p xss) (pcC p xss)) := by
  have hmf : ∀ (fn : Fn) (first cap : Array Value) (w : World), (Instr.makeFunc fn first cap).run Try.prog w = .ok (.func fn first cap) w := fun _ _ _ _ => rfl
  have eg := Lib.hid (enters_of Try.func71 (by kernel_rfl) rfl : ∀ args w, (callFunc 71 args).run Try.prog w = .ok (.enter 71 args) w)
  obtain ⟨wa, hwa⟩ : ∃ wa, wa = w.alloc (.cells #[.int .i64 p, .slice A n c] 31) := ⟨_, rfl⟩
  have hXa : BoxD wa w.heap.size p A n c := by rw [hwa]; exact BoxD.made _ _ _ _ _ _
  have hBa : Below w.heap.size w wa := by rw [hwa]; exact below_boxed _ _
  have hsa : w.heap.size + 1 ≤ wa.heap.size := by rw [hwa]; simp
  have hPc := implParallelClasses_c wa p hp A n c R xss (hr.below hBa) hn hw hz
  have HWa := Lib.hid hwa
  have HXa := Lib.hid hXa
  have HBa := Lib.hid hBa
  by_cases h0 : pcC p xss = 0
  rotate_left
  · rw [show moX p xss = [] from if_neg h0]
    have hne : (pcC p xss != 0) = true := by simp; exact h0
    have HPc := Lib.hid hPc
    generalize pcC p xss = cd at *
    generalize pcX p xss = C at *
    clear hwa hXa hBa hr hn hp hw hz hPc h0
    go_enter Try.func32, Try.ntmps32
    go_wp2_with fail
    rw [← HWa.out]
    refine (HPc.out).mono ?_
    rintro e w2 ⟨⟨A2, n2, c2, R2, rfl, hn2, ho2⟩, hb2⟩
    have HB2 := Lib.hid (HBa.out.trans (hb2.mono HBa.out.size))
    have HB3 := Lib.hid (HB2.out.alloc HB2.out.size (.cells #[.slice A2 n2 c2] 22))
    clear hb2 ho2 hn2
    go_wp2
    go_ret2
    exact ⟨⟨none, 0, 0, fun _ => (none, 0, fun _ => (none, 0)), fun _ => (0, 0), rfl, rfl, OwnL.nil_ _ _ _ _ _⟩, HB3.out⟩
  obtain ⟨P, K, rfl, hD, hK, hI, hok, hmany, hPK, hK2, hK5, hRw, hX, hMo⟩ := mo_facts h0
  rw [hX, h0] at hPc
  rw [hMo, h0]
  generalize clsTo P xss xss.length = C at *
  have HPc := Lib.hid hPc
  have HI := Lib.hid hI
  have HOk := Lib.hid hok
  have HRw := Lib.hid hRw
  have HMa := Lib.hid hmany
  have HR := Lib.hid hr
  have HN := Lib.hid hn
  have HLn := Lib.hid (fun (c : Nat) (hc : c < C.length) => hok.len hI hc)
  obtain ⟨K1, hK1⟩ : ∃ K1, K1 = K - 1 := ⟨_, rfl⟩
  have HK1 := Lib.hid hK1
  rw [← hK1]
  have hK1a : K1 + 1 ≤ K := by omega
  have hK1b : K ≤ K1 + 1 := by omega
  clear hwa hXa hBa hr hn hp hw hz hPc h0 hD hK hI hok hmany hPK hRw hX hMo hK1
  go_enter Try.func32, Try.ntmps32
  go_wp2_with fail
  rw [← HWa.out]
  refine (HPc.out).mono ?_
  rintro e w2 ⟨⟨A2, n2, c2, R2, rfl, hn2, ho2⟩, hb2⟩
  have hnk : n2 = K + 1 := by rw [← hn2]; exact HMa.out
  have hcap := ho2.rd.le
  rw [hn2] at hcap
  obtain ⟨g2, eg2, _, hg2, _, _⟩ := ho2.at_ (k := 0) (by omega)
  subst eg2
  obtain ⟨w3, hw3⟩ : ∃ w3, w3 = w2.alloc (.cells #[.slice (some ⟨g2, 0, none⟩) n2 c2] 22) := ⟨_, rfl⟩
  have hb23 : Below w2.heap.size w2 w3 := by rw [hw3]; exact (Below.refl _ _).alloc (Nat.le_refl _) _
  have hs3 : w3.heap.size = w2.heap.size + 1 := by rw [hw3]; simp
  have hcl3 : w3.cell? ⟨w2.heap.size, 0, none⟩ = some (.slice (some ⟨g2, 0, none⟩) n2 c2) := by rw [hw3]; simp [go_sem]
  have hb3 : Below wa.heap.size wa w3 := hb2.trans (hb23.mono hb2.size)
  have HX3 := Lib.hid (HXa.out.below hb3)
  have HB3 := Lib.hid (HBa.out.trans (hb3.mono HBa.out.size))
  have HO3 := Lib.hid (ho2.below hb23)
  have HN2 := Lib.hid hn2
  have HCl3 := Lib.hid hcl3
  have hc22 : c2 ≠ 2 := by omega
  have hn22 : 2 ≤ n2 := by omega
  have hn2c : n2 ≤ c2 := hcap
  have hlt3 : w2.heap.size < w3.heap.size := by omega
  have HNk := Lib.hid hnk
  have HL0 := Lib.hid (OwnL.nil_ w3 w3.heap.size w3.heap.size (fun _ => (none, 0, fun _ => (none, 0))) (fun _ => (0, 0)))
  have HBr0 := Lib.hid (Below.refl w3.heap.size w3)
  have hn8 : n2 ≤ 8 := by omega
  clear hn2 ho2 hb2 hb3 hb23 hnk hcap
  go_wp2_with fail
  rw [← hw3]
  refine (sizeS_c w3 (some ⟨g2, 0, none⟩) n2 c2).mono ?_
  rintro e w' ⟨rfl, rfl⟩
  clear hw3
  go_wp2
  go_loopw [7, 24] (fun o v wr => ∃ (k : Nat) (Al : Option Addr) (cl : Nat) (S : Spine3) (I : Nat → Nat × Nat), k ≤ n2 - 2 ∧ v = .int .i64 k ∧ o = .slice Al k cl ∧ Hid (OwnL wr w3.heap.size wr.heap.size Al cl S I (moL xss C K k)) ∧ Hid (Below w3.heap.size w3 wr)) (fun _ v _ => n2 - 2 - (intOf v).toNat)
  case atStart => exact ⟨0, _, _, _, _, Nat.zero_le _, rfl, rfl, HL0, HBr0⟩
  case round =>
    obtain ⟨k, Al, cl, S, I, hk, rfl, rfl, HO, HB⟩ := hrel
    have hsz := HB.out.size
    by_cases hkn : k < n2 - 2
    · have hkC : k + 2 < C.length := by rw [HN2.out]; omega
      obtain ⟨_, eg1, _, _, hcx, _⟩ := HO3.out.at_ hkC
      injection eg1 with eg1
      injection eg1 with eg1
      subst eg1
      rw [HLn.out _ hkC, show k + 2 = 2 + k by omega] at hcx
      have hg23 : g2 < w3.heap.size := by omega
      have hccr := (HB.out.cell (p := ⟨g2, 2 + k, none⟩) hg23).trans hcx
      have hk0 : (0 : Int) ≤ (k : Int) := by omega
      have hk1 : (k : Int) < ((n2 - 2 : Nat) : Int) := by omega
      have hcbr := (HB.out.cell (p := ⟨w2.heap.size, 0, none⟩) hlt3).trans HCl3.out
      obtain ⟨wb, hwb⟩ : ∃ wb, wb = wr.alloc (.cells #[.slice (R2 (2 + k)).1 K (R2 (2 + k)).2] 52) := ⟨_, rfl⟩
      have hbr : Below wr.heap.size wr wb := by rw [hwb]; exact (Below.refl _ _).alloc (Nat.le_refl _) _
      have hcb : wb.cell? ⟨wr.heap.size, 0, none⟩ = some (.slice (R2 (2 + k)).1 K (R2 (2 + k)).2) := by rw [hwb]; simp [go_sem]
      have hszb : wb.heap.size = wr.heap.size + 1 := by rw [hwb]; simp
      have hBb : Below w3.heap.size w3 wb := HB.out.trans (hbr.mono hsz)
      have HFs := Lib.hid (filledSquare_c wb ((n2 : Int) - 1) K 71 #[.pointer (some ⟨w.heap.size, 0, none⟩), .pointer (some ⟨w2.heap.size, 0, none⟩), .pointer (some ⟨wr.heap.size, 0, none⟩)] (mpF xss C (k + 2)) eg.out (by have := HNk.out; omega) (by omega) (fun W x y hx hy hbW => by
        have hb3W : Below w3.heap.size w3 W := hBb.trans (hbW.mono (by omega))
        have hbaW := HXa.out
        refine mo1_c W w.heap.size w2.heap.size wr.heap.size P K A (some ⟨g2, 0, none⟩) n c n2 c2 k R R2 xss C x y (HX3.out.below hb3W).c1 (HR.out.below (HB3.out.trans (hb3W.mono HB3.out.size))) HN.out ((hb3W.cell (p := ⟨w2.heap.size, 0, none⟩) hlt3).trans HCl3.out) (HO3.out.below hb3W).rd HN2.out (by omega) ?_ HI.out HRw.out HOk.out hx hy
        rw [HLn.out _ hkC, show k + 2 = 2 + k by omega]
        exact (hbW.cell (p := ⟨wr.heap.size, 0, none⟩) (cell_size hcb)).trans hcb))
      have HBb := Lib.hid hBb
      have HOb := Lib.hid (HO.out.step (w' := wb) (fun j _ h2 => hbr.block j h2))
      have hle : wr.heap.size ≤ wb.heap.size := by omega
      clear hcx hbr hcb hBb
      go_wp2_with fail
      rw [← hwb]
      refine (HFs.out).mono ?_
      rintro e w9 ⟨⟨A9, n9, c9, R9, rfl, hn9, ho9⟩, hb9⟩
      have hz9 := hb9.size
      have hB9 : Below w3.heap.size w3 w9 := HBb.out.trans (hb9.mono (by omega))
      have HL9 := Lib.hid ((HOb.out.step (w' := w9) (fun j _ h2 => hb9.block j (by omega))).step (w' := w9.alloc (.cells #[.slice A9 n9 c9] 22)) (fun j _ h2 => Below.heap_alloc w9 _ j (by omega)))
      have HI9 := Lib.hid (ho9.in_.step (w' := w9.alloc (.cells #[.slice A9 n9 c9] 22)) (fun j _ h2 => Below.heap_alloc w9 _ j h2))
      have HN9 := Lib.hid hn9
      have HB9 := Lib.hid (hB9.alloc hB9.size (.cells #[.slice A9 n9 c9] 22))
      clear ho9 hn9 hb9 hwb
      go_wp2_with (at_builtin; refine wpL_append rfl _ _ rfl w3.heap.size wr.heap.size _ _ _ S I (moL xss C K k) A9 n9 c9 R9 (sqTo (mpF xss C (k + 2)) K K) wb.heap.size w9.heap.size w9.heap.size rfl rfl (moL_len xss C K k) HN9.out HL9.out HI9.out (by omega) hle (by omega) (by simp) (World.cell?_alloc_at _ _ _ _ rfl) (by omega) (by simp; omega) ?_; intro A10 c10 S10 I10 w10 ho10 hg10)
      have HB10 := Lib.hid (HB9.out.trans (Below.of_grown hg10 (by simp; omega) (fun g eg => by
        rcases HL9.out.form with ⟨e1, _⟩ | ⟨g1, e1, hl1, _⟩
        · rw [e1] at eg; simp [blk] at eg
        · rw [e1, blk_some] at eg; injection eg with eg; omega)))
      have HO10 := Lib.hid (show OwnL w10 w3.heap.size w10.heap.size A10 c10 S10 I10 (moL xss C K (k + 1)) from by rw [moL_succ]; exact ho10)
      clear ho10 hg10 hB9
      go_wp2
      go_roundw
      case rel => exact ⟨k + 1, _, _, _, _, by omega, by go_num, rfl, HO10, HB10⟩
      case measure => simp [intOf]; omega
    · obtain rfl : k = n2 - 2 := by omega
      have HK := Lib.hid (show K1 = n2 - 2 by have := HNk.out; omega)
      have HLf := Lib.hid (moL_len xss C K (n2 - 2))
      have HBf := Lib.hid (HB3.out.trans (HB.out.mono HB3.out.size))
      have hlo : w.heap.size ≤ w3.heap.size := HB3.out.size
      go_wp2
      go_ret2
      exact ⟨⟨Al, n2 - 2, cl, S, I, rfl, by rw [HK.out]; exact HLf.out, by rw [HK.out]; exact HO.out.lower hlo⟩, HBf.out⟩
end Go.Proofs.Ytcdbbcnoleilfaa
