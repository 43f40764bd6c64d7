/- slices.IndexFunc and slices.ContainsFunc over []Pass, at a closure whose contract is given. -/
import Derived.Test.YtkmclaijhkaimaaHarnPass
namespace Go.Proofs.Ytkmclaijhkaimaa
open Go.RowKit

end Go.Proofs.Ytkmclaijhkaimaa
