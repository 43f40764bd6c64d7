/- slices.IndexFunc and slices.ContainsFunc over []Pass, at a closure whose contract is given. -/
import Derived.Test.YtkmejkeanmjfbaaDoorHarnPass
namespace Go.Proofs.YtkmejkeanmjfbaaDoor
open Go.RowKit

end Go.Proofs.YtkmejkeanmjfbaaDoor
