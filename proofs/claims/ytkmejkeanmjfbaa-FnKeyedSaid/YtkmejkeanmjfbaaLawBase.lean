/- What all rows of this seat share. -/
import Derived.Test.YtkmejkeanmjfbaaRows
import Derived.Test.YtkmejkeanmjfbaaWords
import Derived.ProofKit
namespace Go.Proofs.Ytkmejkeanmjfbaa
open Go.RowKit
theorem lawOwn : ownKnob Try.prog.godebug = none := by kernel_rfl
theorem lawLaid : laidOutB Try.prog = true := by kernel_rfl
end Go.Proofs.Ytkmejkeanmjfbaa
