/- The harness over slices of Pass: copies, sizes, equal readings, marks. -/
import Derived.Test.YtkmejkeanmjfbaaHarnInts
import Derived.Deep.RegionWith
namespace Go.Proofs.Ytkmejkeanmjfbaa
open Go.RowKit

end Go.Proofs.Ytkmejkeanmjfbaa
