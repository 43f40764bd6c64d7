/- slices.IndexFunc and slices.ContainsFunc over decks, at a closure whose contract is given. -/
import Derived.Test.YtmfoaggohlfflaaDoorDecks
namespace Go.Proofs.YtmfoaggohlfflaaDoor
open Go.RowKit

end Go.Proofs.YtmfoaggohlfflaaDoor
