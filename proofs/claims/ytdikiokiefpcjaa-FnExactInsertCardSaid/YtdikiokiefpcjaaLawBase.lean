/- What all rows of this seat share. -/
import Derived.Test.YtdikiokiefpcjaaRows
import Derived.Test.YtdikiokiefpcjaaWords
import Derived.ProofKit
namespace Go.Proofs.Ytdikiokiefpcjaa
open Go.RowKit
theorem lawOwn : ownKnob Try.prog.godebug = none := by kernel_rfl
theorem lawLaid : laidOutB Try.prog = true := by kernel_rfl
theorem toField_any (a b : Int) (w : World) :
    Calls Try.prog 19 #[.agg #[.int .i64 a, .int .i64 b]] w fun e w' => e = .returned (.agg #[.int .i64 a, .int .i64 b]) ∧ Below w.heap.size w w' := by
  go_enter Try.func19, Try.ntmps19
  go_wp2
  refine bodyPost_ret (v := .agg #[.int .i64 a, .int .i64 b]) (by simp [results, Try.results19, go_sem]) rfl ⟨rfl, ?_⟩
  exact ba (ba (ba (b0 _) _) _) _
end Go.Proofs.Ytdikiokiefpcjaa
