/- FullPlan and what it calls, in the program and in the reference: both give the passes of the columns from the last down to the first. -/
import Derived.Test.YtkmejkeanmjfbaaDoorHarnPass
namespace Go.Proofs.YtkmejkeanmjfbaaDoor
open Go.RowKit

/-- Is a field one of so many columns? -/
def fieldOk (a b n : Int) : Bool := decide (0 ≤ a) && (decide (a < b) && decide (b ≤ n))
theorem fieldOk_true {a b n : Int} (h : fieldOk a b n = true) : 0 ≤ a ∧ a < b ∧ b ≤ n := by simpa [fieldOk] using h
theorem fieldOk_mk {a b n : Int} (h0 : 0 ≤ a) (h1 : a < b) (h2 : b ≤ n) : fieldOk a b n = true := by simp [fieldOk, *]


/-- The passes of the columns b-1, b-2, .. : j columns. -/
def planOf (b : Int) (j : Nat) : List (Int × Int) := (List.range j).flatMap fun i : Nat => [(b - 1 - (i : Int), 1), (b - 1 - (i : Int), 2)]
theorem planOf_succ (b : Int) (j : Nat) : planOf b (j + 1) = planOf b j ++ [(b - 1 - (j : Int), 1), (b - 1 - (j : Int), 2)] := by
  simp [planOf, List.range_succ, List.flatMap_append]
theorem planOf_length (b : Int) (j : Nat) : (planOf b j).length = 2 * j := by
  induction j with
  | zero => rfl
  | succ j ih => rw [planOf_succ, List.length_append, ih]; simp; omega

def fullRes (a b : Int) : List (Int × Int) := if fieldOk a b 20 = true then planOf b (b - a).toNat else []
def fullCode (a b : Int) : Int := if fieldOk a b 20 = true then 0 else 2
theorem fullRes_length (a b : Int) : (fullRes a b).length ≤ 40 := by
  unfold fullRes
  split
  · rename_i h
    have := fieldOk_true h
    rw [planOf_length]
    omega
  · simp

end Go.Proofs.YtkmejkeanmjfbaaDoor
