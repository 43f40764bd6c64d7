/- slices.IndexFunc and slices.ContainsFunc over decks, at a closure whose contract is given. -/
import Derived.Test.YtkmejkeanmjfbaaDoorDecks
namespace Go.Proofs.YtkmejkeanmjfbaaDoor
open Go.RowKit

end Go.Proofs.YtkmejkeanmjfbaaDoor
