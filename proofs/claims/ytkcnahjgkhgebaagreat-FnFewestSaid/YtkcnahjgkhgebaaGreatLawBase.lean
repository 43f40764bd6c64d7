/- What all rows of this seat share. -/
import Derived.Test.YtkcnahjgkhgebaaGreatRows
import Derived.Test.YtkcnahjgkhgebaaGreatWords
import Derived.ProofKit
namespace Go.Proofs.YtkcnahjgkhgebaaGreat
open Go.RowKit
theorem lawOwn : ownKnob Tryz.prog.godebug = none := by kernel_rfl
theorem lawLaid : laidOutB Tryz.prog = true := by kernel_rfl
theorem toField_any (a b : Int) (w : World) :
    Calls Tryz.prog 8 #[.agg #[.int .i64 a, .int .i64 b]] w fun e w' => e = .returned (.agg #[.int .i64 a, .int .i64 b]) ∧ Below w.heap.size w w' := by
  go_enter Tryz.func8, Tryz.ntmps8
  go_wp2
  refine bodyPost_ret (v := .agg #[.int .i64 a, .int .i64 b]) (by simp [results, Tryz.results8, go_sem]) rfl ⟨rfl, ?_⟩
  exact ba (ba (ba (b0 _) _) _) _
end Go.Proofs.YtkcnahjgkhgebaaGreat
