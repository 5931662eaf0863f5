/-
  The program's search for a resolution: a class is begun. Conditions: those of each theorem.
-/
import Derived.Test.YthgbfgdnljgicabRslD
import Derived.Deep.RegionHeld3
import Derived.Deep.DeepCutAuto
namespace Go.Proofs.Ythgbfgdnljgicab
open Go.RowKit
set_option linter.unusedVariables false
set_option linter.unusedSimpArgs false

/-- What lies there when no class is open. -/
structure BgW (w0 wo wr : World) (g left : Nat) (sp : Bool) (P : Nat) (A : Option Addr) (n c gu : Nat) (K : Option Addr) (s kc : Nat) (Rk : Spine) (X : List (List Int)) (U : List Bool) (cv : Value) : Prop where
  ob : wr.heap[g]? = some (rsObj left sp P A n c gu K s kc cv)
  us : OwnB wr w0.heap.size gu n U
  ks : OwnM wr w0.heap.size K kc Rk X
  bl : Below w0.heap.size w0 wr
  fr : Fr w0.heap.size gu none wo wr
/-- The end of a search that has found a resolution. -/
def FinOk (w0 wo wr : World) (g P : Nat) (A : Option Addr) (n c gu : Nat) (cb : Option Nat) (cs : List (List Int)) : Prop :=
  Fr w0.heap.size gu cb wo wr ∧ Below w0.heap.size w0 wr ∧ ∃ (l : Nat) (K : Option Addr) (kc : Nat) (Rk : Spine) (cv : Value), wr.heap[g]? = some (rsObj l false P A n c gu K cs.length kc cv) ∧ OwnM wr w0.heap.size K kc Rk cs
def BegPost (w0 w : World) (g P : Nat) (A : Option Addr) (n c gu : Nat) (done : List (List Int)) (cv : Value) (r : Fnd) (e : Ending) (w' : World) : Prop :=
  match r with
  | .yes cs => e = .returned (.bool true) ∧ FinOk w0 w w' g P A n c gu none cs
  | .no l => e = .returned (.bool false) ∧ ∃ K kc Rk, BgW w0 w w' g l false P A n c gu K done.length kc Rk done (covV n (rsU done [])) cv
  | .full => e = .returned (.bool false) ∧ ∃ K kc Rk, BgW w0 w w' g 0 true P A n c gu K done.length kc Rk done (covV n (rsU done [])) cv
def ExtPost (w0 w : World) (g P : Nat) (A : Option Addr) (n c gu gc : Nat) (xss done : List (List Int)) (cls : List Int) (r : Fnd) (e : Ending) (w' : World) : Prop :=
  match r with
  | .yes cs => e = .returned (.bool true) ∧ FinOk w0 w w' g P A n c gu (some gc) cs
  | .no l => e = .returned (.bool false) ∧ ∃ K kc Rk, TkW w0 w w' g l false P A n c gu gc K (done.length + 1) kc Rk (done ++ [cls]) (covV n (rsU done cls)) (ptC xss cls)
  | .full => e = .returned (.bool false) ∧ ∃ K kc Rk, TkW w0 w w' g 0 true P A n c gu gc K (done.length + 1) kc Rk (done ++ [cls]) (covV n (rsU done cls)) (ptC xss cls)
def BegAt (w0 : World) (g P : Nat) (A : Option Addr) (n c gu : Nat) (xss : List (List Int)) (f : Nat) : Prop :=
  ∀ (w : World) (done : List (List Int)) (left : Nat) (K : Option Addr) (kc : Nat) (Rk : Spine) (Ca : Option Addr) (cn cc : Nat), RsOk xss done [] → rsM xss done [] < f → left ≤ 20000 →
    BgW w0 w w g left false P A n c gu K done.length kc Rk done (covV n (rsU done [])) (.slice Ca cn cc) →
    Calls Try.prog 20 #[.pointer (some ⟨g, 0, none⟩)] w (BegPost w0 w g P A n c gu done (.slice Ca cn cc) (srch xss P f done [] left))
def ExtAt (w0 : World) (g P : Nat) (A : Option Addr) (n c gu : Nat) (xss : List (List Int)) (f : Nat) : Prop :=
  ∀ (w : World) (done : List (List Int)) (cls : List Int) (left gc : Nat) (K : Option Addr) (kc : Nat) (Rk : Spine), RsOk xss done cls → rsM xss done cls < f → cls ≠ [] → left ≤ 20000 → gc ≠ gu →
    TkW w0 w w g left false P A n c gu gc K (done.length + 1) kc Rk (done ++ [cls]) (covV n (rsU done cls)) (ptC xss cls) →
    Calls Try.prog 42 #[.pointer (some ⟨g, 0, none⟩)] w (ExtPost w0 w g P A n c gu gc xss done cls (srch xss P f done cls left))

section
variable {w0 wo wr : World} {g left P n c gu gc s kc : Nat} {sp : Bool} {A K : Option Addr} {Rk : Spine} {X : List (List Int)} {U : List Bool} {cv : Value} {L : List Int}
theorem TkW.rebase {w1 : World} (h : TkW w0 wo wr g left sp P A n c gu gc K s kc Rk X U L) (hf : Fr w0.heap.size gu (some gc) w1 wo) : TkW w0 w1 wr g left sp P A n c gu gc K s kc Rk X U L := ⟨h.ob, h.us, h.cv, h.ks, h.bl, hf.trans h.fr⟩
theorem TkW.base (h : TkW w0 wo wr g left sp P A n c gu gc K s kc Rk X U L) : TkW w0 wr wr g left sp P A n c gu gc K s kc Rk X U L := ⟨h.ob, h.us, h.cv, h.ks, h.bl, Fr.refl _ _ _ _⟩
theorem rs_set_ks {K' : Option Addr} {kc' : Nat} {R' : Spine} {X' : List (List Int)} {k : Nat} {v : Value} (h : wr.heap[g]? = some (rsObj left sp P A n c gu K s kc cv)) (hk : OwnM wr w0.heap.size K' kc' R' X') : OwnM (wr.setCell ⟨g, k, none⟩ v) w0.heap.size K' kc' R' X' :=
  hk.keep_ (fun _ _ _ e' => typed_keep (grownBy_setCell wr ⟨g, k, none⟩ v) h e' (by decide)) (fun _ _ _ e' => typed_keep (grownBy_setCell wr ⟨g, k, none⟩ v) h e' (by decide))
theorem BgW.set {l : Nat} {sp' : Bool} {K' : Option Addr} {s' kc' : Nat} {cv' : Value} {k : Nat} {v : Value} (h : BgW w0 wo wr g left sp P A n c gu K s kc Rk X U cv) (hg : w0.heap.size ≤ g)
    (ho : (wr.setCell ⟨g, k, none⟩ v).heap[g]? = some (rsObj l sp' P A n c gu K' s' kc' cv')) {R' : Spine} {X' : List (List Int)} (hk : OwnM wr w0.heap.size K' kc' R' X') : BgW w0 wo (wr.setCell ⟨g, k, none⟩ v) g l sp' P A n c gu K' s' kc' R' X' U cv' :=
  ⟨ho, h.us.setCell_other (p := ⟨g, k, none⟩) (fun e => rs_flag_ne h.ob h.us e.symm) _, rs_set_ks h.ob hk, h.bl.setCell (p := ⟨g, k, none⟩) hg _, h.fr.trans (Fr.set h.ob (by decide) hg k v)⟩
theorem BgW.left0 (h : BgW w0 wo wr g left sp P A n c gu K s kc Rk X U cv) (hg : w0.heap.size ≤ g) (l : Nat) : BgW w0 wo (wr.setCell ⟨g, 0, none⟩ (.int .i64 (l : Int))) g l sp P A n c gu K s kc Rk X U cv := h.set hg (rs_set0 h.ob l) h.ks
theorem BgW.spent (h : BgW w0 wo wr g left sp P A n c gu K s kc Rk X U cv) (hg : w0.heap.size ≤ g) (b : Bool) : BgW w0 wo (wr.setCell ⟨g, 1, none⟩ (.bool b)) g left b P A n c gu K s kc Rk X U cv := h.set hg (rs_set1 h.ob b) h.ks
theorem BgW.alloc (h : BgW w0 wo wr g left sp P A n c gu K s kc Rk X U cv) (o : Obj) : BgW w0 wo (wr.alloc o) g left sp P A n c gu K s kc Rk X U cv :=
  ⟨((below_boxed wr o).block g (rs_lt h.ob)).trans h.ob, h.us.alloc o, h.ks.alloc o, h.bl.alloc h.bl.size o, h.fr.trans (Fr.of_below (below_boxed wr o) h.bl.size)⟩
theorem BgW.drew (h : BgW w0 wo wr g left sp P A n c gu K s kc Rk X U cv) : BgW w0 wo wr.drew g left sp P A n c gu K s kc Rk X U cv := ⟨h.ob, h.us, h.ks.drewN 1, h.bl.drew, h.fr.drewN 1⟩
/-- A row is put behind the rows. -/
theorem BgW.grow {w7 : World} (h : BgW w0 wo wr g left sp P A n c gu K s kc Rk X U cv) (hg7 : wr.grownBy w7 (blk K)) :
    w7.heap[g]? = some (rsObj left sp P A n c gu K s kc cv) ∧ OwnB w7 w0.heap.size gu n U ∧ Below w0.heap.size w0 w7 ∧ Fr w0.heap.size gu none wo w7 :=
  ⟨rs_row h.ob h.ks.own (by decide) hg7, OwnB.row h.us h.ks.own (by decide) hg7, h.bl.trans (Below.of_grown hg7 h.bl.size (fun g' e => (own_typed h.ks.own e).1)), h.fr.trans (Fr.row h.ks.own (by decide) h.bl.size hg7)⟩
theorem OwnM.front {w : World} {lo c : Nat} {A : Option Addr} {R : Spine} {X : List (List Int)} {y : List Int} (h : OwnM w lo A c R (X ++ [y])) : OwnM w lo A c R X := by
  obtain ⟨g, rfl, _⟩ := h.at_ (k := 0) (by simp)
  have hrow : ∀ k, k < X.length → row (X ++ [y]) k = row X k := fun k hk => by unfold row; rw [List.getElem?_append_left hk]
  refine ⟨?_, fun k hk => ?_, fun i j hij hj => h.apart i j hij (by simp; omega)⟩
  · have h1 := own_headR h.own (m := X.length) (by simp)
    rw [← List.map_take, List.take_range, List.length_append, Nat.min_eq_left (by simp)] at h1
    rw [show ((List.range X.length).map fun k => Value.slice (R k).1 (row X k).length (R k).2) = (List.range X.length).map fun k => Value.slice (R k).1 (row (X ++ [y]) k).length (R k).2 from List.map_congr_left fun k hk => by rw [hrow k (List.mem_range.1 hk)]]
    exact h1
  · have := h.rows k (by simp; omega)
    rwa [hrow k hk] at this
/-- The class that was open is closed again. -/
theorem TkW.shut {G : Nat} {y : List Int} {Ca : Option Addr} {cn cc : Nat} (h : TkW w0 wr wr g left sp P A n c gu gc (some ⟨G, 0, none⟩) s kc Rk (X ++ [y]) U L) (hg : w0.heap.size ≤ g) (hf : Fr w0.heap.size gu none wo wr) (t : Nat) :
    BgW w0 wo ((wr.drew.setCell ⟨g, 5, none⟩ (.slice (some ⟨G, 0, none⟩) t kc)).setCell ⟨g, 6, none⟩ (.slice Ca cn cc)) g left sp P A n c gu (some ⟨G, 0, none⟩) t kc Rk X U (.slice Ca cn cc) := by
  have h0 : BgW w0 wo wr.drew g left sp P A n c gu (some ⟨G, 0, none⟩) s kc Rk (X ++ [y]) U (.slice (some ⟨gc, 0, none⟩) P P) := ⟨h.ob, h.us, h.ks.drewN 1, h.bl.drew, hf.drewN 1⟩
  have h1 := h0.set (k := 5) (v := .slice (some ⟨G, 0, none⟩) t kc) hg (rs_set5 h0.ob _ _ _) h0.ks.front
  exact h1.set (k := 6) (v := .slice Ca cn cc) hg (rs_set6 h1.ob _) h1.ks
end
end Go.Proofs.Ythgbfgdnljgicab
