/- slices.IndexFunc and slices.ContainsFunc over []int64, at a closure whose contract is given. -/
import Derived.Test.YtmfoaggohlfflaaDoorHarnInts
namespace Go.Proofs.YtmfoaggohlfflaaDoor
open Go.RowKit

end Go.Proofs.YtmfoaggohlfflaaDoor
