/- The draws of the law on shifted cards. -/
import Derived.Test.YtkmejkeanmjfbaaDmDraw
import Derived.Test.YtkmejkeanmjfbaaShift
import Derived.Test.YtkmejkeanmjfbaaCardFns
import Derived.IntWalk
namespace Go.Proofs.Ytkmejkeanmjfbaa
open Go.RowKit

/-- What a draw of a card and a number hands back. -/
def CardIP (w : World) (e : Ending) (w' : World) : Prop := ∃ B n d xs z, e = .returned (.tuple #[.agg #[.slice B n d], .int .i64 z]) ∧ List.length xs = n ∧ n ≤ 40 ∧ Ob w' w.heap.size w'.heap.size 2 1 (.slice B n d) n (ints xs) ∧ Below w.heap.size w w'
end Go.Proofs.Ytkmejkeanmjfbaa
