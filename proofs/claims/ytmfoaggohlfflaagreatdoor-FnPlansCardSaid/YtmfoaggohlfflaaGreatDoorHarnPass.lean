/- The harness over slices of Pass: copies, sizes, equal readings, marks. -/
import Derived.Test.YtmfoaggohlfflaaGreatDoorHarnInts
import Derived.Deep.RegionWith
namespace Go.Proofs.YtmfoaggohlfflaaGreatDoor
open Go.RowKit

theorem info_iPass : (Tryz.prog.info? 76).map (fun i => (i.zero, i.size, i.bytes)) = some (some (.agg #[.int .i64 0, .int .i64 0]), 2, 16) := by kernel_rfl

end Go.Proofs.YtmfoaggohlfflaaGreatDoor
