/- What all rows of this seat share. -/
import Derived.Test.YtmfoaggohlfflaaGreatDoorRows
import Derived.Test.YtmfoaggohlfflaaGreatDoorWords
import Derived.ProofKit
namespace Go.Proofs.YtmfoaggohlfflaaGreatDoor
open Go.RowKit
theorem lawOwn : ownKnob Tryz.prog.godebug = none := by kernel_rfl
theorem lawLaid : laidOutB Tryz.prog = true := by kernel_rfl
end Go.Proofs.YtmfoaggohlfflaaGreatDoor
