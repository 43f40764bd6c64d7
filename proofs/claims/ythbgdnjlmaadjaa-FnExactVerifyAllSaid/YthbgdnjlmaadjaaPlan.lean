/- FullPlan and what it calls, in the program and in the reference: both give the passes of the columns from the last down to the first. -/
import Derived.Test.YthbgdnjlmaadjaaHarnPass
namespace Go.Proofs.Ythbgdnjlmaadjaa
open Go.RowKit

/-- Is a field one of so many columns? -/
def fieldOk (a b n : Int) : Bool := decide (0 ≤ a) && (decide (a < b) && decide (b ≤ n))
theorem fieldOk_true {a b n : Int} (h : fieldOk a b n = true) : 0 ≤ a ∧ a < b ∧ b ≤ n := by simpa [fieldOk] using h
theorem fieldOk_mk {a b n : Int} (h0 : 0 ≤ a) (h1 : a < b) (h2 : b ≤ n) : fieldOk a b n = true := by simp [fieldOk, *]


set_option maxHeartbeats 400000 in
theorem isField_any (a b n : Int) (w : World) :
    Calls Try.prog 158 #[.agg #[.int .i64 a, .int .i64 b], .int .i64 n] w fun e w' => e = .returned (.bool (fieldOk a b n)) ∧ Below w.heap.size w w' := by
  by_cases h0 : 0 ≤ a <;> by_cases h1 : a < b <;> by_cases h2 : b ≤ n
  all_goals
    go_enter Try.func158, Try.ntmps158
    go_wp2
    go_ret
    exact ⟨ret_bool (by simp [fieldOk, *]), ba (b0 _) _⟩

set_option maxHeartbeats 400000 in
theorem l02Field_any (a b n : Int) (w : World) :
    Calls Try.prog 159 #[.agg #[.int .i64 a, .int .i64 b], .int .i64 n] w fun e w' => e = .returned (.bool (fieldOk a b n)) ∧ Below w.heap.size w w' := by
  by_cases h0 : 0 ≤ a <;> by_cases h1 : a < b <;> by_cases h2 : b ≤ n
  all_goals
    go_enter Try.func159, Try.ntmps159
    go_wp2
    go_ret
    exact ⟨ret_bool (by simp [fieldOk, *]), ba (b0 _) _⟩

/-- The passes of the columns b-1, b-2, .. : j columns. -/
def planOf (b : Int) (j : Nat) : List (Int × Int) := (List.range j).flatMap fun i : Nat => [(b - 1 - (i : Int), 1), (b - 1 - (i : Int), 2)]
theorem planOf_succ (b : Int) (j : Nat) : planOf b (j + 1) = planOf b j ++ [(b - 1 - (j : Int), 1), (b - 1 - (j : Int), 2)] := by
  simp [planOf, List.range_succ, List.flatMap_append]
theorem planOf_length (b : Int) (j : Nat) : (planOf b j).length = 2 * j := by
  induction j with
  | zero => rfl
  | succ j ih => rw [planOf_succ, List.length_append, ih]; simp; omega

def fullRes (a b : Int) : List (Int × Int) := if fieldOk a b 20 = true then planOf b (b - a).toNat else []
def fullCode (a b : Int) : Int := if fieldOk a b 20 = true then 0 else 2
theorem fullRes_length (a b : Int) : (fullRes a b).length ≤ 40 := by
  unfold fullRes
  split
  · rename_i h
    have := fieldOk_true h
    rw [planOf_length]
    omega
  · simp

end Go.Proofs.Ythbgdnjlmaadjaa
