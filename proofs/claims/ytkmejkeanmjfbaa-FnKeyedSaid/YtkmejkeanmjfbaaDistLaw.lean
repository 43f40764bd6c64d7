/- DistanceOf, and equal columns; in the program and in the reference. -/
import Derived.Test.YtkmejkeanmjfbaaNearAll
namespace Go.Proofs.Ytkmejkeanmjfbaa
open Go.RowKit

def distRes (xs ys : List Int) : Int := if pairC xs ys = 0 then distV xs ys else 0
theorem ret_ii {a b c d : Int} (h : a = b) (k : c = d) : Ending.returned (.tuple #[.int .i64 a, .int .i64 c]) = .returned (.tuple #[.int .i64 b, .int .i64 d]) := by rw [h, k]

end Go.Proofs.Ytkmejkeanmjfbaa
