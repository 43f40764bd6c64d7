/- slices.IndexFunc and slices.ContainsFunc over decks, at a closure whose contract is given. -/
import Derived.Test.YtkmejkeanmjfbaaDecks
namespace Go.Proofs.Ytkmejkeanmjfbaa
open Go.RowKit

end Go.Proofs.Ytkmejkeanmjfbaa
