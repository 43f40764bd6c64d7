/- Are passes ones of so many columns? In the program (arePasses) and in the reference (l07Pass, l08Passes); HandledCards. -/
import Derived.Test.YtkmejkeanmjfbaaDoorBasics
import Derived.Test.YtkmejkeanmjfbaaDoorFuncsPass
namespace Go.Proofs.YtkmejkeanmjfbaaDoor
open Go.RowKit

def modeB (m : Int) : Bool := decide (m = 1) || decide (m = 2)
theorem modeB_true {m : Int} (h : modeB m = true) : m = 1 ∨ m = 2 := by simpa [modeB] using h
def passOk (cols : Int) (p : Int × Int) : Bool := insideB p.1 0 (cols - 1) && modeB p.2
def passesOk (cols : Int) (ps : List (Int × Int)) : Bool := decide (ps.length ≤ 40) && ps.all (passOk cols)

theorem any_not_all {α : Type} (p : α → Bool) (l : List α) : (l.any fun x => !p x) = !l.all p := by
  induction l with
  | nil => rfl
  | cons a l ih => simp [ih]

/-- HandledCards: is there an answer? -/
def handledOk (n : Int) (ps : List (Int × Int)) : Bool := insideB n 0 1000000 && passesOk 20 ps
def handledRes (n : Int) (ps : List (Int × Int)) : Int := if handledOk n ps = true then n * (ps.length : Int) else 0
def handledCode (n : Int) (ps : List (Int × Int)) : Int := if handledOk n ps = true then 0 else 2
theorem passesOk_len {cols : Int} {ps : List (Int × Int)} (h : passesOk cols ps = true) : ps.length ≤ 40 := by
  simp [passesOk] at h
  exact h.1
theorem mul_bounds {n m : Int} (h0 : 0 ≤ n) (h1 : n ≤ 1000000) (h2 : 0 ≤ m) (h3 : m ≤ 40) : 0 ≤ n * m ∧ n * m ≤ 40000000 :=
  ⟨Int.mul_nonneg h0 h2, by have := Int.mul_le_mul h1 h3 h2 (by omega); omega⟩

end Go.Proofs.YtkmejkeanmjfbaaDoor
