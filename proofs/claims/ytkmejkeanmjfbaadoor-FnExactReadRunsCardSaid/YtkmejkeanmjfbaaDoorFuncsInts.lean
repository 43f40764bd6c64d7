/- slices.IndexFunc and slices.ContainsFunc over []int64, at a closure whose contract is given. -/
import Derived.Test.YtkmejkeanmjfbaaDoorHarnInts
namespace Go.Proofs.YtkmejkeanmjfbaaDoor
open Go.RowKit

end Go.Proofs.YtkmejkeanmjfbaaDoor
