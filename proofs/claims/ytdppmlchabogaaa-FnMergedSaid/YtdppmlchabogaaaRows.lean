/-
  No cell of these rows narrows 'for every input' (looked for: loops, veiled, ifaces, maps, wideKeys, modest, calm, conditions, laid).
  DERIVED. THE GIVEN ROWS OF THIS SEAT. 10 by the template 'for every input the law returns true; each argument reads behind the call as it read before'; 0 by the template 'total and deterministic' (their statements: YtdppmlchabogaaaTotals.lean).
  GIVEN WITH THE SEED: the statements are not yours to turn. If you find one false, say at which input.
  Laid BY PROGRAM, IN A SANDBOX (cutbox-rows.mjs): the forced cells as the released guide's own fill.sh prints them over the translation 0fc4128039d5b81d… (all of the seat's roots in one cut). By AI agents, Wed Nov 11 2026. No macro, syntax, notation, axiom, sorry.
-/
import Derived.Test.YtdppmlchabogaaaChecked
import GoSem.Claim
import GoSem.ClaimJoined
import GoSem.ClaimMapViews
import Derived.JoinedTies
import Derived.KernelRfl
namespace Go.Proofs.Ytdppmlchabogaaa
/- THE CELL 'sum', in the pinned program and in every row, IS THE sha256 OF THE DUMP (.gsa) THAT YtdppmlchabogaaaProg.lean LOADS. Nothing in Lean hashes anything: it is a label: what it is worth is what the hold of that sum in a sandbox is worth. -/
noncomputable def Try.pinned : Pinned := { name := "ytdppmlchabogaaa", sum := "0fc4128039d5b81d0c02c3f5c3488ac33e2fa87409a43e64bcf496469618ff72", checked := Try.checked }
namespace Rows
def none {H : Type} : Left H := { results := [], args := [] }

/-- 'laws.FnSorted': WHATEVER THE INPUT: true; the input reads as it did. -/
def fnSortedSpec : ChangeSpec := { name := "fnSorted", fn := fun _ => fun
  | [d1, d2] => { results := [.lit (.bool true)], args := [d1, d2] }
  | _ => none }
def fnSortedRow : OpenClaim := { program := "ytdppmlchabogaaa", sum := "0fc4128039d5b81d0c02c3f5c3488ac33e2fa87409a43e64bcf496469618ff72", func := "loop.example/g01012/laws.FnSorted", spec := "fnSorted", unfollowed := true, recurses := true, apart := false }
def FnSortedSaid : Prop := fnSortedRow.holds Try.pinned (OpenSpec.ofChange fnSortedSpec)

/-- ITS FALSE NEIGHBOUR: 'it returns false'. Refute it at one input. -/
def fnSortedWrong : ChangeSpec := { name := "fnSorted", fn := fun _ => fun
  | [d1, d2] => { results := [.lit (.bool false)], args := [d1, d2] }
  | _ => none }
def FnSortedWrongFalsely : Prop := fnSortedRow.holds Try.pinned (OpenSpec.ofChange fnSortedWrong)

/-- 'laws.FnMerged': WHATEVER THE INPUT: true; the input reads as it did. -/
def fnMergedSpec : ChangeSpec := { name := "fnMerged", fn := fun _ => fun
  | [d] => { results := [.lit (.bool true)], args := [d] }
  | _ => none }
def fnMergedRow : OpenClaim := { program := "ytdppmlchabogaaa", sum := "0fc4128039d5b81d0c02c3f5c3488ac33e2fa87409a43e64bcf496469618ff72", func := "loop.example/g01012/laws.FnMerged", spec := "fnMerged", inPlace := ["internal/bytealg.IndexByteString"], unfollowed := true, recurses := true, apart := false }
def FnMergedSaid : Prop := fnMergedRow.holds Try.pinned (OpenSpec.ofChange fnMergedSpec)

/-- ITS FALSE NEIGHBOUR: 'it returns false'. Refute it at one input. -/
def fnMergedWrong : ChangeSpec := { name := "fnMerged", fn := fun _ => fun
  | [d] => { results := [.lit (.bool false)], args := [d] }
  | _ => none }
def FnMergedWrongFalsely : Prop := fnMergedRow.holds Try.pinned (OpenSpec.ofChange fnMergedWrong)

/-- 'laws.FnPockets': WHATEVER THE INPUT: true; the input reads as it did. -/
def fnPocketsSpec : ChangeSpec := { name := "fnPockets", fn := fun _ => fun
  | [d1, d2] => { results := [.lit (.bool true)], args := [d1, d2] }
  | _ => none }
def fnPocketsRow : OpenClaim := { program := "ytdppmlchabogaaa", sum := "0fc4128039d5b81d0c02c3f5c3488ac33e2fa87409a43e64bcf496469618ff72", func := "loop.example/g01012/laws.FnPockets", spec := "fnPockets", unfollowed := true, recurses := true, apart := false }
def FnPocketsSaid : Prop := fnPocketsRow.holds Try.pinned (OpenSpec.ofChange fnPocketsSpec)

/-- ITS FALSE NEIGHBOUR: 'it returns false'. Refute it at one input. -/
def fnPocketsWrong : ChangeSpec := { name := "fnPockets", fn := fun _ => fun
  | [d1, d2] => { results := [.lit (.bool false)], args := [d1, d2] }
  | _ => none }
def FnPocketsWrongFalsely : Prop := fnPocketsRow.holds Try.pinned (OpenSpec.ofChange fnPocketsWrong)

/-- 'laws.FnGroups': WHATEVER THE INPUT: true; the input reads as it did. -/
def fnGroupsSpec : ChangeSpec := { name := "fnGroups", fn := fun _ => fun
  | [d1, d2] => { results := [.lit (.bool true)], args := [d1, d2] }
  | _ => none }
def fnGroupsRow : OpenClaim := { program := "ytdppmlchabogaaa", sum := "0fc4128039d5b81d0c02c3f5c3488ac33e2fa87409a43e64bcf496469618ff72", func := "loop.example/g01012/laws.FnGroups", spec := "fnGroups", inPlace := ["internal/bytealg.IndexByteString"], unfollowed := true, recurses := true, apart := false }
def FnGroupsSaid : Prop := fnGroupsRow.holds Try.pinned (OpenSpec.ofChange fnGroupsSpec)

/-- ITS FALSE NEIGHBOUR: 'it returns false'. Refute it at one input. -/
def fnGroupsWrong : ChangeSpec := { name := "fnGroups", fn := fun _ => fun
  | [d1, d2] => { results := [.lit (.bool false)], args := [d1, d2] }
  | _ => none }
def FnGroupsWrongFalsely : Prop := fnGroupsRow.holds Try.pinned (OpenSpec.ofChange fnGroupsWrong)

/-- 'laws.FnMatched': WHATEVER THE INPUT: true; the input reads as it did. -/
def fnMatchedSpec : ChangeSpec := { name := "fnMatched", fn := fun _ => fun
  | [d] => { results := [.lit (.bool true)], args := [d] }
  | _ => none }
def fnMatchedRow : OpenClaim := { program := "ytdppmlchabogaaa", sum := "0fc4128039d5b81d0c02c3f5c3488ac33e2fa87409a43e64bcf496469618ff72", func := "loop.example/g01012/laws.FnMatched", spec := "fnMatched", inPlace := ["internal/bytealg.IndexByteString"], unfollowed := true, recurses := true, apart := false }
def FnMatchedSaid : Prop := fnMatchedRow.holds Try.pinned (OpenSpec.ofChange fnMatchedSpec)

/-- ITS FALSE NEIGHBOUR: 'it returns false'. Refute it at one input. -/
def fnMatchedWrong : ChangeSpec := { name := "fnMatched", fn := fun _ => fun
  | [d] => { results := [.lit (.bool false)], args := [d] }
  | _ => none }
def FnMatchedWrongFalsely : Prop := fnMatchedRow.holds Try.pinned (OpenSpec.ofChange fnMatchedWrong)

/-- 'laws.FnSelected': WHATEVER THE INPUT: true; the input reads as it did. -/
def fnSelectedSpec : ChangeSpec := { name := "fnSelected", fn := fun _ => fun
  | [d1, d2] => { results := [.lit (.bool true)], args := [d1, d2] }
  | _ => none }
def fnSelectedRow : OpenClaim := { program := "ytdppmlchabogaaa", sum := "0fc4128039d5b81d0c02c3f5c3488ac33e2fa87409a43e64bcf496469618ff72", func := "loop.example/g01012/laws.FnSelected", spec := "fnSelected", inPlace := ["internal/bytealg.IndexByteString"], unfollowed := true, recurses := true, apart := false }
def FnSelectedSaid : Prop := fnSelectedRow.holds Try.pinned (OpenSpec.ofChange fnSelectedSpec)

/-- ITS FALSE NEIGHBOUR: 'it returns false'. Refute it at one input. -/
def fnSelectedWrong : ChangeSpec := { name := "fnSelected", fn := fun _ => fun
  | [d1, d2] => { results := [.lit (.bool false)], args := [d1, d2] }
  | _ => none }
def FnSelectedWrongFalsely : Prop := fnSelectedRow.holds Try.pinned (OpenSpec.ofChange fnSelectedWrong)

/-- 'laws.FnDamages': WHATEVER THE INPUT: true; the input reads as it did. -/
def fnDamagesSpec : ChangeSpec := { name := "fnDamages", fn := fun _ => fun
  | [d] => { results := [.lit (.bool true)], args := [d] }
  | _ => none }
def fnDamagesRow : OpenClaim := { program := "ytdppmlchabogaaa", sum := "0fc4128039d5b81d0c02c3f5c3488ac33e2fa87409a43e64bcf496469618ff72", func := "loop.example/g01012/laws.FnDamages", spec := "fnDamages", unfollowed := true, recurses := true, apart := false }
def FnDamagesSaid : Prop := fnDamagesRow.holds Try.pinned (OpenSpec.ofChange fnDamagesSpec)

/-- ITS FALSE NEIGHBOUR: 'it returns false'. Refute it at one input. -/
def fnDamagesWrong : ChangeSpec := { name := "fnDamages", fn := fun _ => fun
  | [d] => { results := [.lit (.bool false)], args := [d] }
  | _ => none }
def FnDamagesWrongFalsely : Prop := fnDamagesRow.holds Try.pinned (OpenSpec.ofChange fnDamagesWrong)

/-- 'laws.FnShifted': WHATEVER THE INPUT: true; the input reads as it did. -/
def fnShiftedSpec : ChangeSpec := { name := "fnShifted", fn := fun _ => fun
  | [d] => { results := [.lit (.bool true)], args := [d] }
  | _ => none }
def fnShiftedRow : OpenClaim := { program := "ytdppmlchabogaaa", sum := "0fc4128039d5b81d0c02c3f5c3488ac33e2fa87409a43e64bcf496469618ff72", func := "loop.example/g01012/laws.FnShifted", spec := "fnShifted", unfollowed := true, recurses := true, apart := false }
def FnShiftedSaid : Prop := fnShiftedRow.holds Try.pinned (OpenSpec.ofChange fnShiftedSpec)

/-- ITS FALSE NEIGHBOUR: 'it returns false'. Refute it at one input. -/
def fnShiftedWrong : ChangeSpec := { name := "fnShifted", fn := fun _ => fun
  | [d] => { results := [.lit (.bool false)], args := [d] }
  | _ => none }
def FnShiftedWrongFalsely : Prop := fnShiftedRow.holds Try.pinned (OpenSpec.ofChange fnShiftedWrong)

/-- 'laws.FnKeyed': WHATEVER THE INPUT: true; the input reads as it did. -/
def fnKeyedSpec : ChangeSpec := { name := "fnKeyed", fn := fun _ => fun
  | [d] => { results := [.lit (.bool true)], args := [d] }
  | _ => none }
def fnKeyedRow : OpenClaim := { program := "ytdppmlchabogaaa", sum := "0fc4128039d5b81d0c02c3f5c3488ac33e2fa87409a43e64bcf496469618ff72", func := "loop.example/g01012/laws.FnKeyed", spec := "fnKeyed", inPlace := ["internal/bytealg.CountString", "internal/bytealg.IndexByteString", "internal/bytealg.IndexString"], unfollowed := true, recurses := true, named := ["internal/bytealg.MaxLen"], apart := false }
def FnKeyedSaid : Prop := fnKeyedRow.holds Try.pinned (OpenSpec.ofChange fnKeyedSpec)

/-- ITS FALSE NEIGHBOUR: 'it returns false'. Refute it at one input. -/
def fnKeyedWrong : ChangeSpec := { name := "fnKeyed", fn := fun _ => fun
  | [d] => { results := [.lit (.bool false)], args := [d] }
  | _ => none }
def FnKeyedWrongFalsely : Prop := fnKeyedRow.holds Try.pinned (OpenSpec.ofChange fnKeyedWrong)

/-- 'laws.FnExactVerifyAll': WHATEVER THE INPUT: true; the input reads as it did. -/
def fnExactVerifyAllSpec : ChangeSpec := { name := "fnExactVerifyAll", fn := fun _ => fun
  | [d1, d2, d3, d4] => { results := [.lit (.bool true)], args := [d1, d2, d3, d4] }
  | _ => none }
def fnExactVerifyAllRow : OpenClaim := { program := "ytdppmlchabogaaa", sum := "0fc4128039d5b81d0c02c3f5c3488ac33e2fa87409a43e64bcf496469618ff72", func := "loop.example/g01012/laws.FnExactVerifyAll", spec := "fnExactVerifyAll", inPlace := ["internal/bytealg.CountString", "internal/bytealg.IndexByteString", "internal/bytealg.IndexString"], unfollowed := true, recurses := true, named := ["internal/bytealg.MaxLen"], apart := false }
def FnExactVerifyAllSaid : Prop := fnExactVerifyAllRow.holds Try.pinned (OpenSpec.ofChange fnExactVerifyAllSpec)

/-- ITS FALSE NEIGHBOUR: 'it returns false'. Refute it at one input. -/
def fnExactVerifyAllWrong : ChangeSpec := { name := "fnExactVerifyAll", fn := fun _ => fun
  | [d1, d2, d3, d4] => { results := [.lit (.bool false)], args := [d1, d2, d3, d4] }
  | _ => none }
def FnExactVerifyAllWrongFalsely : Prop := fnExactVerifyAllRow.holds Try.pinned (OpenSpec.ofChange fnExactVerifyAllWrong)

/- THE SECOND FORM. 'bulk': how many values and letters a reading holds, each counted each time it is reached (what is shared counts as often as it is met; a slice's spare places count too). A statement '..UptoSaid' is the law's where the arguments, and the package variables that the reading takes, are together of bulk at most 1048576: NARROWER than '..Said'. Prove '..Said' where nothing that the law and all that it calls make is longer than what came in: it says more and counts as full. Else prove '..UptoSaid'. A law counts once. -/
mutual
def uptoBulk {H : Type} : DataW H → Nat
  | .lit (.string bytes) => bytes.length + 1
  | .lit _ => 1
  | .nil => 1
  | .ptr d => uptoBulk d + 1
  | .slice elems spare => uptoBulkAll elems + uptoBulkAll spare + 1
  | .agg parts => uptoBulkAll parts + 1
  | .iface _ d => uptoBulk d + 1
  | .map entries => uptoBulkEntries entries + 1
  | .held _ => 1
def uptoBulkAll {H : Type} : List (DataW H) → Nat
  | [] => 0
  | d :: r => uptoBulk d + uptoBulkAll r
def uptoBulkEntries {H : Type} : List (Lit × DataW H) → Nat
  | [] => 0
  | x :: r => uptoBulkEntry x + uptoBulkEntries r
def uptoBulkEntry {H : Type} : Lit × DataW H → Nat
  | (.string bytes, d) => bytes.length + uptoBulk d + 1
  | (_, d) => uptoBulk d + 1
 end
def uptoSmall : (H : Type) → List (DataW H) → Bool := fun _ ds => decide (uptoBulkAll ds ≤ 1048576)
def OpenSpec.upto (s : _root_.Go.ChangeSpec) : _root_.Go.OpenSpec := { _root_.Go.OpenSpec.ofChange s with cond := some uptoSmall }

/-- 'laws.FnSorted', WHERE WHAT IT READS IS OF BULK AT MOST 1048576: true; the input reads as it did. -/
def fnSortedUptoRow : OpenClaim := { program := "ytdppmlchabogaaa", sum := "0fc4128039d5b81d0c02c3f5c3488ac33e2fa87409a43e64bcf496469618ff72", func := "loop.example/g01012/laws.FnSorted", spec := "fnSorted", unfollowed := true, recurses := true, apart := false, narrowed := true }
def FnSortedUptoSaid : Prop := fnSortedUptoRow.holds Try.pinned (OpenSpec.upto fnSortedSpec)

/-- 'laws.FnMerged', WHERE WHAT IT READS IS OF BULK AT MOST 1048576: true; the input reads as it did. -/
def fnMergedUptoRow : OpenClaim := { program := "ytdppmlchabogaaa", sum := "0fc4128039d5b81d0c02c3f5c3488ac33e2fa87409a43e64bcf496469618ff72", func := "loop.example/g01012/laws.FnMerged", spec := "fnMerged", inPlace := ["internal/bytealg.IndexByteString"], unfollowed := true, recurses := true, apart := false, narrowed := true }
def FnMergedUptoSaid : Prop := fnMergedUptoRow.holds Try.pinned (OpenSpec.upto fnMergedSpec)

/-- 'laws.FnPockets', WHERE WHAT IT READS IS OF BULK AT MOST 1048576: true; the input reads as it did. -/
def fnPocketsUptoRow : OpenClaim := { program := "ytdppmlchabogaaa", sum := "0fc4128039d5b81d0c02c3f5c3488ac33e2fa87409a43e64bcf496469618ff72", func := "loop.example/g01012/laws.FnPockets", spec := "fnPockets", unfollowed := true, recurses := true, apart := false, narrowed := true }
def FnPocketsUptoSaid : Prop := fnPocketsUptoRow.holds Try.pinned (OpenSpec.upto fnPocketsSpec)

/-- 'laws.FnGroups', WHERE WHAT IT READS IS OF BULK AT MOST 1048576: true; the input reads as it did. -/
def fnGroupsUptoRow : OpenClaim := { program := "ytdppmlchabogaaa", sum := "0fc4128039d5b81d0c02c3f5c3488ac33e2fa87409a43e64bcf496469618ff72", func := "loop.example/g01012/laws.FnGroups", spec := "fnGroups", inPlace := ["internal/bytealg.IndexByteString"], unfollowed := true, recurses := true, apart := false, narrowed := true }
def FnGroupsUptoSaid : Prop := fnGroupsUptoRow.holds Try.pinned (OpenSpec.upto fnGroupsSpec)

/-- 'laws.FnMatched', WHERE WHAT IT READS IS OF BULK AT MOST 1048576: true; the input reads as it did. -/
def fnMatchedUptoRow : OpenClaim := { program := "ytdppmlchabogaaa", sum := "0fc4128039d5b81d0c02c3f5c3488ac33e2fa87409a43e64bcf496469618ff72", func := "loop.example/g01012/laws.FnMatched", spec := "fnMatched", inPlace := ["internal/bytealg.IndexByteString"], unfollowed := true, recurses := true, apart := false, narrowed := true }
def FnMatchedUptoSaid : Prop := fnMatchedUptoRow.holds Try.pinned (OpenSpec.upto fnMatchedSpec)

/-- 'laws.FnSelected', WHERE WHAT IT READS IS OF BULK AT MOST 1048576: true; the input reads as it did. -/
def fnSelectedUptoRow : OpenClaim := { program := "ytdppmlchabogaaa", sum := "0fc4128039d5b81d0c02c3f5c3488ac33e2fa87409a43e64bcf496469618ff72", func := "loop.example/g01012/laws.FnSelected", spec := "fnSelected", inPlace := ["internal/bytealg.IndexByteString"], unfollowed := true, recurses := true, apart := false, narrowed := true }
def FnSelectedUptoSaid : Prop := fnSelectedUptoRow.holds Try.pinned (OpenSpec.upto fnSelectedSpec)

/-- 'laws.FnDamages', WHERE WHAT IT READS IS OF BULK AT MOST 1048576: true; the input reads as it did. -/
def fnDamagesUptoRow : OpenClaim := { program := "ytdppmlchabogaaa", sum := "0fc4128039d5b81d0c02c3f5c3488ac33e2fa87409a43e64bcf496469618ff72", func := "loop.example/g01012/laws.FnDamages", spec := "fnDamages", unfollowed := true, recurses := true, apart := false, narrowed := true }
def FnDamagesUptoSaid : Prop := fnDamagesUptoRow.holds Try.pinned (OpenSpec.upto fnDamagesSpec)

/-- 'laws.FnShifted', WHERE WHAT IT READS IS OF BULK AT MOST 1048576: true; the input reads as it did. -/
def fnShiftedUptoRow : OpenClaim := { program := "ytdppmlchabogaaa", sum := "0fc4128039d5b81d0c02c3f5c3488ac33e2fa87409a43e64bcf496469618ff72", func := "loop.example/g01012/laws.FnShifted", spec := "fnShifted", unfollowed := true, recurses := true, apart := false, narrowed := true }
def FnShiftedUptoSaid : Prop := fnShiftedUptoRow.holds Try.pinned (OpenSpec.upto fnShiftedSpec)

/-- 'laws.FnKeyed', WHERE WHAT IT READS IS OF BULK AT MOST 1048576: true; the input reads as it did. -/
def fnKeyedUptoRow : OpenClaim := { program := "ytdppmlchabogaaa", sum := "0fc4128039d5b81d0c02c3f5c3488ac33e2fa87409a43e64bcf496469618ff72", func := "loop.example/g01012/laws.FnKeyed", spec := "fnKeyed", inPlace := ["internal/bytealg.CountString", "internal/bytealg.IndexByteString", "internal/bytealg.IndexString"], unfollowed := true, recurses := true, named := ["internal/bytealg.MaxLen"], apart := false, narrowed := true }
def FnKeyedUptoSaid : Prop := fnKeyedUptoRow.holds Try.pinned (OpenSpec.upto fnKeyedSpec)

/-- 'laws.FnExactVerifyAll', WHERE WHAT IT READS IS OF BULK AT MOST 1048576: true; the input reads as it did. -/
def fnExactVerifyAllUptoRow : OpenClaim := { program := "ytdppmlchabogaaa", sum := "0fc4128039d5b81d0c02c3f5c3488ac33e2fa87409a43e64bcf496469618ff72", func := "loop.example/g01012/laws.FnExactVerifyAll", spec := "fnExactVerifyAll", inPlace := ["internal/bytealg.CountString", "internal/bytealg.IndexByteString", "internal/bytealg.IndexString"], unfollowed := true, recurses := true, named := ["internal/bytealg.MaxLen"], apart := false, narrowed := true }
def FnExactVerifyAllUptoSaid : Prop := fnExactVerifyAllUptoRow.holds Try.pinned (OpenSpec.upto fnExactVerifyAllSpec)

end Rows
end Go.Proofs.Ytdppmlchabogaaa
