/- Small functions of numbers, in the program and in the reference. -/
import Derived.Test.YtkmejkeanmjfbaaGreatDoorChecked
import Derived.Test.YtkmejkeanmjfbaaGreatDoorKd1
import Derived.Deep.QuietTactic
import Derived.BigQuiet
/-! ### Basics -/
namespace Go.Proofs.YtkmejkeanmjfbaaGreatDoor
open Go.RowKit

/-- Is a number in low..high? -/
def insideB (n lo hi : Int) : Bool := decide (lo ≤ n) && decide (n ≤ hi)
theorem insideB_true {n lo hi : Int} (h : insideB n lo hi = true) : lo ≤ n ∧ n ≤ hi := by simpa [insideB] using h
theorem insideB_mk {n lo hi : Int} (h0 : lo ≤ n) (h1 : n ≤ hi) : insideB n lo hi = true := by simp [insideB, *]
theorem insideB_false {n lo hi : Int} (h : insideB n lo hi = false) : n < lo ∨ hi < n := by
  simp [insideB] at h
  by_cases h0 : lo ≤ n
  · exact .inr (h h0)
  · exact .inl (by omega)

theorem inside_any (n lo hi : Int) (w : World) :
    Calls Tryz.prog 43 #[.int .i64 n, .int .i64 lo, .int .i64 hi] w fun e w' => e = .returned (.bool (insideB n lo hi)) ∧ w = w' := by
  by_cases h0 : lo ≤ n <;> by_cases h1 : n ≤ hi
  all_goals
    go_enter Tryz.func43, Tryz.ntmps43
    go_wp2
    go_ret
    exact ⟨ret_bool (by simp [insideB, *]), rfl⟩
theorem l00In_any (n lo hi : Int) (w : World) :
    Calls Tryz.prog 49 #[.int .i64 n, .int .i64 lo, .int .i64 hi] w fun e w' => e = .returned (.bool (insideB n lo hi)) ∧ w = w' := by
  by_cases h0 : lo ≤ n <;> by_cases h1 : n ≤ hi
  all_goals
    go_enter Tryz.func49, Tryz.ntmps49
    go_wp2
    go_ret
    exact ⟨ret_bool (by simp [insideB, *]), rfl⟩
end Go.Proofs.YtkmejkeanmjfbaaGreatDoor
