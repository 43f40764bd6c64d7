/- The harness over slices of Pass: copies, sizes, equal readings, marks. -/
import Derived.Test.YtkmejkeanmjfbaaDoorHarnInts
import Derived.Deep.RegionWith
namespace Go.Proofs.YtkmejkeanmjfbaaDoor
open Go.RowKit

end Go.Proofs.YtkmejkeanmjfbaaDoor
