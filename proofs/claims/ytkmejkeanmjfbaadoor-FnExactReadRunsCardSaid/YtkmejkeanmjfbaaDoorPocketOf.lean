/- PocketOf; in the program and in the reference. -/
import Derived.Test.YtkmejkeanmjfbaaDoorPocket
import Derived.Test.YtkmejkeanmjfbaaDoorCardFns
import Derived.Test.YtkmejkeanmjfbaaDoorPasses
import Derived.Deep.RegionHeld3
namespace Go.Proofs.YtkmejkeanmjfbaaDoor
open Go.RowKit

def pkC (xs : List Int) (a b : Int) : Int := if cardOk xs = true then (if passOk (xs.length : Int) (a, b) = true then 0 else 2) else 1
def pkV (xs : List Int) (a b : Int) : Int := if pkC xs a b = 0 then pocketI (xs.getD a.toNat 0) b else 0
theorem pk_no {xs : List Int} {a b : Int} (h : cardOk xs = false) : pkV xs a b = 0 ∧ pkC xs a b = 1 := by
  have : pkC xs a b = 1 := by unfold pkC; rw [if_neg (by simp [h])]
  refine ⟨?_, this⟩
  unfold pkV
  rw [this]
  rfl
theorem pk_two {xs : List Int} {a b : Int} (h : cardOk xs = true) (h2 : passOk (xs.length : Int) (a, b) = false) : pkV xs a b = 0 ∧ pkC xs a b = 2 := by
  have : pkC xs a b = 2 := by unfold pkC; rw [if_pos h, if_neg (by simp [h2])]
  refine ⟨?_, this⟩
  unfold pkV
  rw [this]
  rfl
theorem pk_ok {xs : List Int} {a b : Int} (h : cardOk xs = true) (h2 : passOk (xs.length : Int) (a, b) = true) : pkV xs a b = pocketI (xs.getD a.toNat 0) b ∧ pkC xs a b = 0 := by
  have : pkC xs a b = 0 := by unfold pkC; rw [if_pos h, if_pos h2]
  refine ⟨?_, this⟩
  unfold pkV
  rw [if_pos this]
theorem passOk_col {n : Nat} {a b : Int} (h : passOk (n : Int) (a, b) = true) : ∃ i : Nat, a = (i : Int) ∧ i < n := by
  simp only [passOk, Bool.and_eq_true] at h
  have := insideB_true h.1
  exact ⟨a.toNat, by omega, by omega⟩
theorem passesOk_one (cols : Int) (p : Int × Int) : passesOk cols [p] = passOk cols p := by simp [passesOk]
theorem ret_ii' {a b c d : Int} (h : a = b) (k : c = d) : Ending.returned (.tuple #[.int .i64 a, .int .i64 c]) = .returned (.tuple #[.int .i64 b, .int .i64 d]) := by rw [h, k]

end Go.Proofs.YtkmejkeanmjfbaaDoor
