/- slices.IndexFunc and slices.ContainsFunc over []Pass, at a closure whose contract is given. -/
import Derived.Test.YtmfoaggohlfflaaDoorHarnPass
namespace Go.Proofs.YtmfoaggohlfflaaDoor
open Go.RowKit

end Go.Proofs.YtmfoaggohlfflaaDoor
