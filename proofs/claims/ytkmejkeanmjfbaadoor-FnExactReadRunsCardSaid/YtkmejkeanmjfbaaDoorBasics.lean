/- Small functions of numbers, in the program and in the reference. -/
import Derived.Test.YtkmejkeanmjfbaaDoorChecked
import Derived.Test.YtkmejkeanmjfbaaDoorWords
import Derived.Deep.QuietTactic
import Derived.BigQuiet
namespace Go.Proofs.YtkmejkeanmjfbaaDoor
open Go.RowKit

/-- Is a number in low..high? -/
def insideB (n lo hi : Int) : Bool := decide (lo ≤ n) && decide (n ≤ hi)
theorem insideB_true {n lo hi : Int} (h : insideB n lo hi = true) : lo ≤ n ∧ n ≤ hi := by simpa [insideB] using h
theorem insideB_mk {n lo hi : Int} (h0 : lo ≤ n) (h1 : n ≤ hi) : insideB n lo hi = true := by simp [insideB, *]
theorem insideB_false {n lo hi : Int} (h : insideB n lo hi = false) : n < lo ∨ hi < n := by
  simp [insideB] at h
  by_cases h0 : lo ≤ n
  · exact .inr (h h0)
  · exact .inl (by omega)

theorem inside_any (n lo hi : Int) (w : World) :
    Calls Tryd.prog 13 #[.int .i64 n, .int .i64 lo, .int .i64 hi] w fun e w' => e = .returned (.bool (insideB n lo hi)) ∧ w = w' := by
  by_cases h0 : lo ≤ n <;> by_cases h1 : n ≤ hi
  all_goals
    go_enter Tryd.func13, Tryd.ntmps13
    go_wp2
    go_ret
    exact ⟨ret_bool (by simp [insideB, *]), rfl⟩
theorem l00In_any (n lo hi : Int) (w : World) :
    Calls Tryd.prog 9 #[.int .i64 n, .int .i64 lo, .int .i64 hi] w fun e w' => e = .returned (.bool (insideB n lo hi)) ∧ w = w' := by
  by_cases h0 : lo ≤ n <;> by_cases h1 : n ≤ hi
  all_goals
    go_enter Tryd.func9, Tryd.ntmps9
    go_wp2
    go_ret
    exact ⟨ret_bool (by simp [insideB, *]), rfl⟩
end Go.Proofs.YtkmejkeanmjfbaaDoor
