/- shifted, ShiftCard in the program and l06Shift, ShiftCard in the reference. -/
import Derived.Test.YtkmejkeanmjfbaaGreatDoorKd5
import Derived.RegionTactic
import Derived.ChangeAlike
/-! ### Shift -/
namespace Go.Proofs.YtkmejkeanmjfbaaGreatDoor
open Go.RowKit

def shiftAt (xs : List Int) (sh : Int) (k : Nat) : Int := if insideB ((k : Int) - sh) 0 ((xs.length : Int) - 1) = true then xs.getD ((k : Int) - sh).toNat 0 else 0
def shiftL (xs : List Int) (sh : Int) : List Int := (List.range xs.length).map (shiftAt xs sh)
theorem shiftL_length (xs : List Int) (sh : Int) : (shiftL xs sh).length = xs.length := by simp [shiftL]
theorem shiftL_get (xs : List Int) (sh : Int) {k : Nat} (hk : k < xs.length) : (ints (shiftL xs sh))[k]? = some (.int .i64 (shiftAt xs sh k)) := by
  simp [ints, shiftL, hk]
theorem zeros_get {n k : Nat} (hk : k < n) : (ints (List.replicate n 0))[k]? = some (.int .i64 0) := by simp [ints, hk]
/-- A row that is not written at k takes what it holds. -/
theorem take_stay {ys zs : List Value} {k : Nat} {u : Value} (h : ys.take k = zs.take k) (hy : ys[k]? = some u) (hz : zs[k]? = some u) : ys.take (k + 1) = zs.take (k + 1) := by
  rw [take_succ_of _ _ _ hy, take_succ_of _ _ _ hz, h]

def shiftOk (xs : List Int) (sh : Int) : Bool := cardOk xs && insideB sh (-20) 20
def shiftRes (xs : List Int) (sh : Int) : List Int := if shiftOk xs sh = true then shiftL xs sh else []
def shiftCode (xs : List Int) (sh : Int) : Int := if cardOk xs = true then (if insideB sh (-20) 20 = true then 0 else 2) else 1
theorem shiftRes_length (xs : List Int) (sh : Int) : (shiftRes xs sh).length ≤ 20 := by
  unfold shiftRes
  split
  · rename_i h
    simp only [shiftOk, Bool.and_eq_true] at h
    have := cardOk_len h.1
    rw [shiftL_length]
    omega
  · simp


end Go.Proofs.YtkmejkeanmjfbaaGreatDoor
