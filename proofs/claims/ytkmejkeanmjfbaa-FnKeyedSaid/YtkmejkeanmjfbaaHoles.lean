/- AddedHoles and LostHoles in the program and in the reference. -/
import Derived.Test.YtkmejkeanmjfbaaNearAll
namespace Go.Proofs.Ytkmejkeanmjfbaa
open Go.RowKit

def moreAt (xs ys : List Int) (k : Nat) : Bool := bits .andNot .i64 (xs.getD k 0) (ys.getD k 0) != 0
def addedRes (xs ys : List Int) : List Int := if pairC xs ys = 0 then colsWhere (moreAt ys xs) xs.length else []
def lostRes (xs ys : List Int) : List Int := if pairC xs ys = 0 then colsWhere (moreAt xs ys) xs.length else []
theorem addedRes_swap (xs ys : List Int) : addedRes ys xs = lostRes xs ys := by
  unfold addedRes lostRes
  rw [pairC_swap ys xs]
  by_cases h : pairC xs ys = 0
  · rw [if_pos h, if_pos h, (pairC_zero h).2.2]
  · rw [if_neg h, if_neg h]
theorem addedRes_length (xs ys : List Int) : (addedRes xs ys).length ≤ 20 := by
  unfold addedRes
  split
  · rename_i h
    have h1 := colsWhere_le (moreAt ys xs) xs.length
    have h2 := cardOk_len (pairC_zero h).1
    omega
  · simp
theorem lostRes_length (xs ys : List Int) : (lostRes xs ys).length ≤ 20 := by
  rw [← addedRes_swap]
  exact addedRes_length ys xs

end Go.Proofs.Ytkmejkeanmjfbaa
