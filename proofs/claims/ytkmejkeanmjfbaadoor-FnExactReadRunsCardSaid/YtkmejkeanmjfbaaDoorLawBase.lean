/- What all rows of this seat share. -/
import Derived.Test.YtkmejkeanmjfbaaDoorRows
import Derived.Test.YtkmejkeanmjfbaaDoorWords
import Derived.ProofKit
namespace Go.Proofs.YtkmejkeanmjfbaaDoor
open Go.RowKit
theorem lawOwn : ownKnob Tryd.prog.godebug = none := by kernel_rfl
theorem lawLaid : laidOutB Tryd.prog = true := by kernel_rfl
end Go.Proofs.YtkmejkeanmjfbaaDoor
