/-
  Permutations of three points by their rank: UnrankPermutation(3, r) of the program, l04Unrank(3, r) of the reference. Conditions: those of each theorem.
-/
import Derived.Test.YtamklliaibfljaaShelfD
import Derived.Test.YtamklliaibfljaaIdn
import Derived.Test.YtamklliaibfljaaPrdP
import Derived.Sort.OwnSortedInts
namespace Go.Proofs.Ytamklliaibfljaa
open Go.RowKit Go.Sort Go.Shelf
set_option linter.unusedVariables false
set_option linter.unusedSimpArgs false

theorem OwnI.shorterU {w : World} {lo : Nat} {A : Option Addr} {c : Nat} {xs ys : List Int} (h : OwnI w lo A c (xs ++ ys)) : OwnI w lo A c xs := by
  refine ⟨by simp, ?_⟩
  rcases h.2 with ⟨e, hn⟩ | ⟨g, cap, cur, e, hg, hh, hc, hm, hs, ht⟩
  · injection e with e1 e2 e3
    subst e1 e3
    have : xs.length = 0 := by rw [List.length_append] at hn; omega
    exact .inl ⟨by rw [this], this⟩
  · injection e with e1 e2 e3
    subst e1 e3
    refine .inr ⟨g, c, cur, rfl, hg, hh, by rw [List.length_append] at hc; omega, hm, hs, ?_⟩
    have h1 : cur.toList.take xs.length = (cur.toList.take ((xs ++ ys).length * 1)).take xs.length := by
      rw [List.take_take, Nat.min_eq_left (by rw [List.length_append]; omega)]
    rw [Nat.mul_one, h1, ht, List.map_append]
    exact List.take_left' (by simp)

theorem OwnI.blk_geU {w : World} {lo : Nat} {A : Option Addr} {c : Nat} {xs : List Int} (h : OwnI w lo A c xs) : ∀ g, blk A = some g → lo ≤ g := by
  intro g e
  rcases h.form with ⟨e1, _⟩ | ⟨g1, e1, hl1, _⟩
  · rw [e1] at e; simp [blk] at e
  · rw [e1, blk_some] at e; injection e with e; omega
theorem RdI.takeU {w : World} {A : Option Addr} {c : Nat} {xs : List Int} (h : RdI w A c xs) (m : Nat) : RdI w A c (xs.take m) :=
  ⟨by have := h.le; rw [List.length_take]; omega, h.cap, fun k hk => by
    rw [List.length_take] at hk
    obtain ⟨b, off, e, hb, hc⟩ := h.at_ k (by omega)
    exact ⟨b, off, e, hb, by rw [show nth (xs.take m) k = nth xs k by simp [nth, List.getElem?_take, show k < m by omega]]; exact hc⟩⟩
theorem delete_c (w : World) {lo : Nat} {g c n : Nat} {xs : List Int} (i : Nat) (h : OwnI w lo (some ⟨g, 0, none⟩) c xs) (hn : xs.length = n) (hi : i < n) :
    Calls Try.prog 80 #[.slice (some ⟨g, 0, none⟩) n c, .int .i64 (i : Int), .int .i64 ((i : Int) + 1)] w fun e w' => e = .returned (.slice (some ⟨g, 0, none⟩) (n - 1) c) ∧ OwnI w' lo (some ⟨g, 0, none⟩) c (xs.take i ++ xs.drop (i + 1)) ∧ w.grownBy w' (some g) := by
  subst hn
  rcases h.2 with ⟨e, hl⟩ | ⟨g, cap, cur, e, hg, hh, hc, hm, hs, ht⟩
  · injection e with e1; cases e1
  · injection e with e1 e2 e3
    injection e1 with e1
    injection e1 with e1
    subst e1 e3
    have hH := holds_of_blockI (ss := xs) hh (by simpa using ht)
    refine (show Calls Try.prog 80 #[.slice (some ⟨g, 0, none⟩) xs.length c, .int .i64 (i : Int), .int .i64 ((i + 1 : Nat) : Int)] w _ from AnyG.slices_Delete_int deleteI g 0 c i (i + 1) xs w hH hc (by unfold maxLen at hm; omega) (by omega) (by omega)).mono fun e w' ⟨he, n, hw⟩ => ?_
    have hl : (xs.take i ++ xs.drop (i + 1) ++ List.replicate (i + 1 - i) (0 : Int)).length = xs.length := by
      simp; omega
    have hw2 : w' = grow (putRow (Value.int .i64) (Sort.ahead w n) g 0 (xs.take i ++ xs.drop (i + 1) ++ List.replicate (i + 1 - i) (0 : Int)).toArray) #[] := by rw [hw]; simp [grow]; rfl
    refine ⟨by rw [he, show i + 1 - i = 1 by omega], OwnI.shorterU (ys := List.replicate (i + 1 - i) (0 : Int)) ?_, by rw [hw2]; exact grownBy_sortedI _⟩
    unfold OwnI
    rw [hw2, hl]
    exact ownsRow_sortedI hl hg hh hc hm hs
end Go.Proofs.Ytamklliaibfljaa
