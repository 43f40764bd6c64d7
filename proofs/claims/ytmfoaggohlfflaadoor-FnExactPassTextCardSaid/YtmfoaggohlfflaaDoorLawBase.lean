/- What all rows of this seat share. -/
import Derived.Test.YtmfoaggohlfflaaDoorRows
import Derived.Test.YtmfoaggohlfflaaDoorWords
import Derived.ProofKit
namespace Go.Proofs.YtmfoaggohlfflaaDoor
open Go.RowKit
theorem lawOwn : ownKnob Tryd.prog.godebug = none := by kernel_rfl
theorem lawLaid : laidOutB Tryd.prog = true := by kernel_rfl
end Go.Proofs.YtmfoaggohlfflaaDoor
