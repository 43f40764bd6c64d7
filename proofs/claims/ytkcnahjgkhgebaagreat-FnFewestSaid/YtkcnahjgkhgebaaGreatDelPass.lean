/- slices.DeleteFunc over []Pass on a row of the call's own, at a closure whose contract is given. -/
import Derived.Test.YtkcnahjgkhgebaaGreatFuncsPass
namespace Go.Proofs.YtkcnahjgkhgebaaGreat
open Go.RowKit

end Go.Proofs.YtkcnahjgkhgebaaGreat
