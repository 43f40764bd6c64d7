/- The harness over slices of int64 and over cards: copies, sizes, equal readings, marks. -/
import Derived.Test.YtkmejkeanmjfbaaDoorChecked
import Derived.Test.YtkmejkeanmjfbaaDoorWords
import Derived.Deep.QuietTactic
import Derived.BigQuiet
namespace Go.Proofs.YtkmejkeanmjfbaaDoor
open Go.RowKit

theorem info_i64 : (Tryd.prog.info? 2).map (fun i => (i.zero, i.size, i.bytes)) = some (some (.int .i64 0), 1, 8) := by kernel_rfl

/-! ### The same for a law's walk: of memory it is said only that what was there stays. -/
end Go.Proofs.YtkmejkeanmjfbaaDoor
