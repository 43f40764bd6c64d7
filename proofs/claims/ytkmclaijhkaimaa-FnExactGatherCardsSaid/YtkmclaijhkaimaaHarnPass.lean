/- The harness over slices of Pass: copies, sizes, equal readings, marks. -/
import Derived.Test.YtkmclaijhkaimaaHarnInts
import Derived.Deep.RegionWith
namespace Go.Proofs.Ytkmclaijhkaimaa
open Go.RowKit

end Go.Proofs.Ytkmclaijhkaimaa
