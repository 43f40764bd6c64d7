/- The draws of the laws on damages. -/
import Derived.Test.YtkmejkeanmjfbaaDamage
import Derived.Test.YtkmejkeanmjfbaaA2
namespace Go.Proofs.Ytkmejkeanmjfbaa
open Go.RowKit

/-- What a draw of two cards hands back. -/
def PairP (w : World) (e : Ending) (w' : World) : Prop := ∃ B n d xs C m g ys, e = .returned (.tuple #[.agg #[.slice B n d], .agg #[.slice C m g]]) ∧ List.length xs = n ∧ n ≤ 40 ∧ List.length ys = m ∧ m ≤ 40 ∧
  Ob w' w.heap.size w'.heap.size 2 1 (.slice B n d) n (ints xs) ∧ Ob w' w.heap.size w'.heap.size 2 1 (.slice C m g) m (ints ys) ∧ Below w.heap.size w w'
/-- What a draw of one card hands back. -/
def CardP (w : World) (e : Ending) (w' : World) : Prop := ∃ B n d xs, e = .returned (.agg #[.slice B n d]) ∧ List.length xs = n ∧ n ≤ 40 ∧ Ob w' w.heap.size w'.heap.size 2 1 (.slice B n d) n (ints xs) ∧ Below w.heap.size w w'
end Go.Proofs.Ytkmejkeanmjfbaa
