/- slices.IndexFunc and slices.ContainsFunc over []Pass, at a closure whose contract is given. -/
import Derived.Test.YthbgdnjlmaadjaaHarnPass
namespace Go.Proofs.Ythbgdnjlmaadjaa
open Go.RowKit

end Go.Proofs.Ythbgdnjlmaadjaa
