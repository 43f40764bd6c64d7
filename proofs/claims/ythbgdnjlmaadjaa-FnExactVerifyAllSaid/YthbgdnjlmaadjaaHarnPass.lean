/- The harness over slices of Pass: copies, sizes, equal readings, marks. -/
import Derived.Test.YthbgdnjlmaadjaaHarnInts
import Derived.Deep.RegionWith
namespace Go.Proofs.Ythbgdnjlmaadjaa
open Go.RowKit

end Go.Proofs.Ythbgdnjlmaadjaa
