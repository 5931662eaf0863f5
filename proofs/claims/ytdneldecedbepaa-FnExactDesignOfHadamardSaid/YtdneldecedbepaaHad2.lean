/-
  ValidHadamard and ExcessOf: contracts of the program's and of the reference's functions. Conditions: those of each theorem.
-/
import Derived.Test.YtdneldecedbepaaHad
namespace Go.Proofs.Ytdneldecedbepaa
open Go.RowKit
set_option linter.unusedVariables false
set_option linter.unusedSimpArgs false

theorem implValidHadamard_c (w : World) (A : Option Addr) (n c : Nat) (R : Spine) (h : List (List Int)) (hr : RdM w A c R h) (hn : h.length = n) (hw : WfM h) (hz : (n : Int) + (tot h : Nat) ≤ 1048576) :
    Calls Try.prog 72 #[.slice A n c] w (PostV w (.bool (validB h))) := implValid_c w A n c R h hr hn (by omega)

def sumTo (r : List Int) : Nat → Int
  | 0 => 0
  | k + 1 => sumTo r k + nth r k
def excTo (h : List (List Int)) (n : Nat) : Nat → Int
  | 0 => 0
  | i + 1 => excTo h n i + sumTo (row h i) n
noncomputable def excV (h : List (List Int)) : Int := if validB h = true then excTo h h.length h.length else 0
noncomputable def excC (h : List (List Int)) : Int := if validB h = true then 0 else 1

end Go.Proofs.Ytdneldecedbepaa
