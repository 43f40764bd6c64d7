/- slices.IndexFunc and slices.ContainsFunc over []Pass, at a closure whose contract is given. -/
import Derived.Test.YtkmejkeanmjfbaaHarnPass
namespace Go.Proofs.Ytkmejkeanmjfbaa
open Go.RowKit

end Go.Proofs.Ytkmejkeanmjfbaa
