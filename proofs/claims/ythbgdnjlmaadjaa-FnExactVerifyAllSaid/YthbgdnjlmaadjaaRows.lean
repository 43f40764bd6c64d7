/-
  No cell of these rows narrows 'for every input' (looked for: loops, veiled, ifaces, maps, wideKeys, modest, calm, conditions, laid).
  DERIVED. THE GIVEN ROWS OF THIS SEAT. 4 by the template 'for every input the law returns true; each argument reads behind the call as it read before'; 0 by the template 'total and deterministic' (their statements: YthbgdnjlmaadjaaTotals.lean).
  GIVEN WITH THE SEED: the statements are not yours to turn. If you find one false, say at which input.
  Laid BY PROGRAM, IN A SANDBOX (cutbox-rows.mjs): the forced cells as the released guide's own fill.sh prints them over the translation c7c61b52b15df108… (all of the seat's roots in one cut). By AI agents, Wed Nov 11 2026. No macro, syntax, notation, axiom, sorry.
-/
import Derived.Test.YthbgdnjlmaadjaaChecked
import GoSem.Claim
import GoSem.ClaimJoined
import GoSem.ClaimMapViews
import Derived.JoinedTies
import Derived.KernelRfl
namespace Go.Proofs.Ythbgdnjlmaadjaa
/- THE CELL 'sum', in the pinned program and in every row, IS THE sha256 OF THE DUMP (.gsa) THAT YthbgdnjlmaadjaaProg.lean LOADS. Nothing in Lean hashes anything: it is a label: what it is worth is what the hold of that sum in a sandbox is worth. -/
noncomputable def Try.pinned : Pinned := { name := "ythbgdnjlmaadjaa", sum := "c7c61b52b15df108b57e0e5ae0c7b5934d70138c0668633bfa8d98e3618699f6", checked := Try.checked }
namespace Rows
def none {H : Type} : Left H := { results := [], args := [] }

/-- 'laws.FnDamages': WHATEVER THE INPUT: true; the input reads as it did. -/
def fnDamagesSpec : ChangeSpec := { name := "fnDamages", fn := fun _ => fun
  | [d] => { results := [.lit (.bool true)], args := [d] }
  | _ => none }
def fnDamagesRow : OpenClaim := { program := "ythbgdnjlmaadjaa", sum := "c7c61b52b15df108b57e0e5ae0c7b5934d70138c0668633bfa8d98e3618699f6", func := "loop.example/g01012/laws.FnDamages", spec := "fnDamages", unfollowed := true, recurses := true, apart := false }
def FnDamagesSaid : Prop := fnDamagesRow.holds Try.pinned (OpenSpec.ofChange fnDamagesSpec)

/-- ITS FALSE NEIGHBOUR: 'it returns false'. Refute it at one input. -/
def fnDamagesWrong : ChangeSpec := { name := "fnDamages", fn := fun _ => fun
  | [d] => { results := [.lit (.bool false)], args := [d] }
  | _ => none }
def FnDamagesWrongFalsely : Prop := fnDamagesRow.holds Try.pinned (OpenSpec.ofChange fnDamagesWrong)

/-- 'laws.FnShifted': WHATEVER THE INPUT: true; the input reads as it did. -/
def fnShiftedSpec : ChangeSpec := { name := "fnShifted", fn := fun _ => fun
  | [d] => { results := [.lit (.bool true)], args := [d] }
  | _ => none }
def fnShiftedRow : OpenClaim := { program := "ythbgdnjlmaadjaa", sum := "c7c61b52b15df108b57e0e5ae0c7b5934d70138c0668633bfa8d98e3618699f6", func := "loop.example/g01012/laws.FnShifted", spec := "fnShifted", unfollowed := true, recurses := true, apart := false }
def FnShiftedSaid : Prop := fnShiftedRow.holds Try.pinned (OpenSpec.ofChange fnShiftedSpec)

/-- ITS FALSE NEIGHBOUR: 'it returns false'. Refute it at one input. -/
def fnShiftedWrong : ChangeSpec := { name := "fnShifted", fn := fun _ => fun
  | [d] => { results := [.lit (.bool false)], args := [d] }
  | _ => none }
def FnShiftedWrongFalsely : Prop := fnShiftedRow.holds Try.pinned (OpenSpec.ofChange fnShiftedWrong)

/-- 'laws.FnKeyed': WHATEVER THE INPUT: true; the input reads as it did. -/
def fnKeyedSpec : ChangeSpec := { name := "fnKeyed", fn := fun _ => fun
  | [d] => { results := [.lit (.bool true)], args := [d] }
  | _ => none }
def fnKeyedRow : OpenClaim := { program := "ythbgdnjlmaadjaa", sum := "c7c61b52b15df108b57e0e5ae0c7b5934d70138c0668633bfa8d98e3618699f6", func := "loop.example/g01012/laws.FnKeyed", spec := "fnKeyed", inPlace := ["internal/bytealg.CountString", "internal/bytealg.IndexByteString", "internal/bytealg.IndexString"], unfollowed := true, recurses := true, named := ["internal/bytealg.MaxLen"], apart := false }
def FnKeyedSaid : Prop := fnKeyedRow.holds Try.pinned (OpenSpec.ofChange fnKeyedSpec)

/-- ITS FALSE NEIGHBOUR: 'it returns false'. Refute it at one input. -/
def fnKeyedWrong : ChangeSpec := { name := "fnKeyed", fn := fun _ => fun
  | [d] => { results := [.lit (.bool false)], args := [d] }
  | _ => none }
def FnKeyedWrongFalsely : Prop := fnKeyedRow.holds Try.pinned (OpenSpec.ofChange fnKeyedWrong)

/-- 'laws.FnExactVerifyAll': WHATEVER THE INPUT: true; the input reads as it did. -/
def fnExactVerifyAllSpec : ChangeSpec := { name := "fnExactVerifyAll", fn := fun _ => fun
  | [d1, d2, d3, d4] => { results := [.lit (.bool true)], args := [d1, d2, d3, d4] }
  | _ => none }
def fnExactVerifyAllRow : OpenClaim := { program := "ythbgdnjlmaadjaa", sum := "c7c61b52b15df108b57e0e5ae0c7b5934d70138c0668633bfa8d98e3618699f6", func := "loop.example/g01012/laws.FnExactVerifyAll", spec := "fnExactVerifyAll", inPlace := ["internal/bytealg.CountString", "internal/bytealg.IndexByteString", "internal/bytealg.IndexString"], unfollowed := true, recurses := true, named := ["internal/bytealg.MaxLen"], apart := false }
def FnExactVerifyAllSaid : Prop := fnExactVerifyAllRow.holds Try.pinned (OpenSpec.ofChange fnExactVerifyAllSpec)

/-- ITS FALSE NEIGHBOUR: 'it returns false'. Refute it at one input. -/
def fnExactVerifyAllWrong : ChangeSpec := { name := "fnExactVerifyAll", fn := fun _ => fun
  | [d1, d2, d3, d4] => { results := [.lit (.bool false)], args := [d1, d2, d3, d4] }
  | _ => none }
def FnExactVerifyAllWrongFalsely : Prop := fnExactVerifyAllRow.holds Try.pinned (OpenSpec.ofChange fnExactVerifyAllWrong)

/- THE SECOND FORM. 'bulk': how many values and letters a reading holds, each counted each time it is reached (what is shared counts as often as it is met; a slice's spare places count too). A statement '..UptoSaid' is the law's where the arguments, and the package variables that the reading takes, are together of bulk at most 1048576: NARROWER than '..Said'. Prove '..Said' where nothing that the law and all that it calls make is longer than what came in: it says more and counts as full. Else prove '..UptoSaid'. A law counts once. -/
mutual
def uptoBulk {H : Type} : DataW H → Nat
  | .lit (.string bytes) => bytes.length + 1
  | .lit _ => 1
  | .nil => 1
  | .ptr d => uptoBulk d + 1
  | .slice elems spare => uptoBulkAll elems + uptoBulkAll spare + 1
  | .agg parts => uptoBulkAll parts + 1
  | .iface _ d => uptoBulk d + 1
  | .map entries => uptoBulkEntries entries + 1
  | .held _ => 1
def uptoBulkAll {H : Type} : List (DataW H) → Nat
  | [] => 0
  | d :: r => uptoBulk d + uptoBulkAll r
def uptoBulkEntries {H : Type} : List (Lit × DataW H) → Nat
  | [] => 0
  | x :: r => uptoBulkEntry x + uptoBulkEntries r
def uptoBulkEntry {H : Type} : Lit × DataW H → Nat
  | (.string bytes, d) => bytes.length + uptoBulk d + 1
  | (_, d) => uptoBulk d + 1
 end
def uptoSmall : (H : Type) → List (DataW H) → Bool := fun _ ds => decide (uptoBulkAll ds ≤ 1048576)
def OpenSpec.upto (s : _root_.Go.ChangeSpec) : _root_.Go.OpenSpec := { _root_.Go.OpenSpec.ofChange s with cond := some uptoSmall }

/-- 'laws.FnDamages', WHERE WHAT IT READS IS OF BULK AT MOST 1048576: true; the input reads as it did. -/
def fnDamagesUptoRow : OpenClaim := { program := "ythbgdnjlmaadjaa", sum := "c7c61b52b15df108b57e0e5ae0c7b5934d70138c0668633bfa8d98e3618699f6", func := "loop.example/g01012/laws.FnDamages", spec := "fnDamages", unfollowed := true, recurses := true, apart := false, narrowed := true }
def FnDamagesUptoSaid : Prop := fnDamagesUptoRow.holds Try.pinned (OpenSpec.upto fnDamagesSpec)

/-- 'laws.FnShifted', WHERE WHAT IT READS IS OF BULK AT MOST 1048576: true; the input reads as it did. -/
def fnShiftedUptoRow : OpenClaim := { program := "ythbgdnjlmaadjaa", sum := "c7c61b52b15df108b57e0e5ae0c7b5934d70138c0668633bfa8d98e3618699f6", func := "loop.example/g01012/laws.FnShifted", spec := "fnShifted", unfollowed := true, recurses := true, apart := false, narrowed := true }
def FnShiftedUptoSaid : Prop := fnShiftedUptoRow.holds Try.pinned (OpenSpec.upto fnShiftedSpec)

/-- 'laws.FnKeyed', WHERE WHAT IT READS IS OF BULK AT MOST 1048576: true; the input reads as it did. -/
def fnKeyedUptoRow : OpenClaim := { program := "ythbgdnjlmaadjaa", sum := "c7c61b52b15df108b57e0e5ae0c7b5934d70138c0668633bfa8d98e3618699f6", func := "loop.example/g01012/laws.FnKeyed", spec := "fnKeyed", inPlace := ["internal/bytealg.CountString", "internal/bytealg.IndexByteString", "internal/bytealg.IndexString"], unfollowed := true, recurses := true, named := ["internal/bytealg.MaxLen"], apart := false, narrowed := true }
def FnKeyedUptoSaid : Prop := fnKeyedUptoRow.holds Try.pinned (OpenSpec.upto fnKeyedSpec)

/-- 'laws.FnExactVerifyAll', WHERE WHAT IT READS IS OF BULK AT MOST 1048576: true; the input reads as it did. -/
def fnExactVerifyAllUptoRow : OpenClaim := { program := "ythbgdnjlmaadjaa", sum := "c7c61b52b15df108b57e0e5ae0c7b5934d70138c0668633bfa8d98e3618699f6", func := "loop.example/g01012/laws.FnExactVerifyAll", spec := "fnExactVerifyAll", inPlace := ["internal/bytealg.CountString", "internal/bytealg.IndexByteString", "internal/bytealg.IndexString"], unfollowed := true, recurses := true, named := ["internal/bytealg.MaxLen"], apart := false, narrowed := true }
def FnExactVerifyAllUptoSaid : Prop := fnExactVerifyAllUptoRow.holds Try.pinned (OpenSpec.upto fnExactVerifyAllSpec)

end Rows
end Go.Proofs.Ythbgdnjlmaadjaa
