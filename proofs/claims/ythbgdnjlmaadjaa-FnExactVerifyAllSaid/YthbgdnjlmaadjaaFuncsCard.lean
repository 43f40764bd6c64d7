/- slices.IndexFunc and slices.ContainsFunc over decks, at a closure whose contract is given. -/
import Derived.Test.YthbgdnjlmaadjaaDecks
namespace Go.Proofs.Ythbgdnjlmaadjaa
open Go.RowKit

end Go.Proofs.Ythbgdnjlmaadjaa
