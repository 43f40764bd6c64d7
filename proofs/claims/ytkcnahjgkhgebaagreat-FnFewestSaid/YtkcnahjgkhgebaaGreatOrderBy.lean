/- OrderBy; in the program and in the reference. -/
import Derived.Test.YtkcnahjgkhgebaaGreatOrder
import Derived.Test.YtkcnahjgkhgebaaGreatPlaces
import Derived.Test.YtkcnahjgkhgebaaGreatGroups
namespace Go.Proofs.YtkcnahjgkhgebaaGreat
open Go.RowKit

def ordRes (L : List (List Int)) (a b : Int) : List Int := if codeK L a b = 0 then ordL L a b else []
theorem ordRes_0 {L : List (List Int)} {a b : Int} (h : codeK L a b = 0) : ordRes L a b = ordL L a b := by unfold ordRes; rw [if_pos h]
theorem ordRes_1 {L : List (List Int)} {a b : Int} (h : codeK L a b ≠ 0) : ordRes L a b = [] := by unfold ordRes; rw [if_neg h]
theorem ordRes_len (L : List (List Int)) (a b : Int) : (ordRes L a b).length ≤ 40 := by
  by_cases h : codeK L a b = 0
  · rw [ordRes_0 h, ordL_length]
    exact deckOk_len (codeK_zero h).1
  · rw [ordRes_1 h]
    simp

end Go.Proofs.YtkcnahjgkhgebaaGreat
