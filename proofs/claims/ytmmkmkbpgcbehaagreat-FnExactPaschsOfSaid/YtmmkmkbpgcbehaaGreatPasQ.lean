/-
  What PaschsOf answers. Conditions: those of each theorem.
-/
import Derived.Test.YtmmkmkbpgcbehaaGreatPasL
import Derived.Test.YtmmkmkbpgcbehaaGreatThird
namespace Go.Proofs.YtmmkmkbpgcbehaaGreat
open Go.RowKit
set_option linter.unusedVariables false
set_option linter.unusedSimpArgs false

def quC (p : Int) (xss : List (List Int)) : Int := if tripB p xss = true then 0 else 1
def quR (p : Int) (xss : List (List Int)) : List (List Int) := if tripB p xss = true then qdR xss else []
theorem quR_small (p : Int) (xss : List (List Int)) : (quR p xss).length ≤ 32768 ∧ tot (quR p xss) ≤ 131072 := by
  unfold quR
  split
  · rename_i h
    have h1 := qdR_len (xss := xss) (by have := (trip_dsg h).1.2.1; omega)
    have h2 := tot_four (xss := qdR xss) (fun q hq => qdR_four hq)
    omega
  · simp [tot_nil]
theorem PaschsOf_small (p : Int) (xss : List (List Int)) : (quR p xss).length ≤ 1048576 ∧ tot (quR p xss) ≤ 1048576 := by
  have := quR_small p xss
  omega
end Go.Proofs.YtmmkmkbpgcbehaaGreat
