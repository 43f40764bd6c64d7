/- The harness over slices of Pass: copies, sizes, equal readings, marks. -/
import Derived.Test.YtdppmlchabogaaaHarnInts
import Derived.Deep.RegionWith
namespace Go.Proofs.Ytdppmlchabogaaa
open Go.RowKit

theorem info_iPass : (Try.prog.info? 52).map (fun i => (i.zero, i.size, i.bytes)) = some (some (.agg #[.int .i64 0, .int .i64 0]), 2, 16) := by kernel_rfl

end Go.Proofs.Ytdppmlchabogaaa
