/- LaceColumn in the program and in the reference. -/
import Derived.Test.YtkmejkeanmjfbaaDoorCardFns
namespace Go.Proofs.YtkmejkeanmjfbaaDoor
open Go.RowKit

def laceOk (xs : List Int) (n : Int) : Bool := cardOk xs && insideB n 0 ((xs.length : Int) - 1)
def laceRes (xs : List Int) (n : Int) : List Int := if laceOk xs n = true then xs.set n.toNat 4095 else []
def laceCode (xs : List Int) (n : Int) : Int := if cardOk xs = true then (if insideB n 0 ((xs.length : Int) - 1) = true then 0 else 2) else 1
theorem laceRes_length (xs : List Int) (n : Int) : (laceRes xs n).length ≤ 20 := by
  unfold laceRes
  split
  · rename_i h
    simp only [laceOk, Bool.and_eq_true] at h
    have := cardOk_len h.1
    simp
    omega
  · simp
theorem ints_set (xs : List Int) (k : Nat) (v : Int) : ints (xs.set k v) = (ints xs).set k (.int .i64 v) := by simp [ints, List.map_set]

end Go.Proofs.YtkmejkeanmjfbaaDoor
