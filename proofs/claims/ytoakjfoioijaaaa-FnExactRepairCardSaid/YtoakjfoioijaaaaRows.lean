/-
  No cell of these rows narrows 'for every input' (looked for: loops, veiled, ifaces, maps, wideKeys, modest, calm, conditions, laid).
  DERIVED. THE GIVEN ROWS OF THIS SEAT. 11 by the template 'for every input the law returns true; each argument reads behind the call as it read before'; 0 by the template 'total and deterministic' (their statements: YtoakjfoioijaaaaTotals.lean).
  GIVEN WITH THE SEED: the statements are not yours to turn. If you find one false, say at which input.
  Laid BY PROGRAM, IN A SANDBOX (cutbox-rows.mjs): the forced cells as the released guide's own fill.sh prints them over the translation 847900a6c9e5502f… (all of the seat's roots in one cut). By AI agents, Wed Nov 11 2026. No macro, syntax, notation, axiom, sorry.
-/
import Derived.Test.YtoakjfoioijaaaaChecked
import GoSem.Claim
import GoSem.ClaimJoined
import GoSem.ClaimMapViews
import Derived.JoinedTies
import Derived.KernelRfl
namespace Go.Proofs.Ytoakjfoioijaaaa
/- THE CELL 'sum', in the pinned program and in every row, IS THE sha256 OF THE DUMP (.gsa) THAT YtoakjfoioijaaaaProg.lean LOADS. Nothing in Lean hashes anything: it is a label: what it is worth is what the hold of that sum in a sandbox is worth. -/
noncomputable def Try.pinned : Pinned := { name := "ytoakjfoioijaaaa", sum := "847900a6c9e5502f4d5f366912612a579ed831ddc8f51ce4bc19a99202323439", checked := Try.checked }
namespace Rows
def none {H : Type} : Left H := { results := [], args := [] }

/-- 'laws.FnExactReproduceCard': WHATEVER THE INPUT: true; the input reads as it did. -/
def fnExactReproduceCardSpec : ChangeSpec := { name := "fnExactReproduceCard", fn := fun _ => fun
  | [d1, d2, d3] => { results := [.lit (.bool true)], args := [d1, d2, d3] }
  | _ => none }
def fnExactReproduceCardRow : OpenClaim := { program := "ytoakjfoioijaaaa", sum := "847900a6c9e5502f4d5f366912612a579ed831ddc8f51ce4bc19a99202323439", func := "loop.example/g01012/laws.FnExactReproduceCard", spec := "fnExactReproduceCard", unfollowed := true, recurses := true, apart := false }
def FnExactReproduceCardSaid : Prop := fnExactReproduceCardRow.holds Try.pinned (OpenSpec.ofChange fnExactReproduceCardSpec)

/-- ITS FALSE NEIGHBOUR: 'it returns false'. Refute it at one input. -/
def fnExactReproduceCardWrong : ChangeSpec := { name := "fnExactReproduceCard", fn := fun _ => fun
  | [d1, d2, d3] => { results := [.lit (.bool false)], args := [d1, d2, d3] }
  | _ => none }
def FnExactReproduceCardWrongFalsely : Prop := fnExactReproduceCardRow.holds Try.pinned (OpenSpec.ofChange fnExactReproduceCardWrong)

/-- 'laws.FnExactRepairCard': WHATEVER THE INPUT: true; the input reads as it did. -/
def fnExactRepairCardSpec : ChangeSpec := { name := "fnExactRepairCard", fn := fun _ => fun
  | [d] => { results := [.lit (.bool true)], args := [d] }
  | _ => none }
def fnExactRepairCardRow : OpenClaim := { program := "ytoakjfoioijaaaa", sum := "847900a6c9e5502f4d5f366912612a579ed831ddc8f51ce4bc19a99202323439", func := "loop.example/g01012/laws.FnExactRepairCard", spec := "fnExactRepairCard", unfollowed := true, recurses := true, apart := false }
def FnExactRepairCardSaid : Prop := fnExactRepairCardRow.holds Try.pinned (OpenSpec.ofChange fnExactRepairCardSpec)

/-- ITS FALSE NEIGHBOUR: 'it returns false'. Refute it at one input. -/
def fnExactRepairCardWrong : ChangeSpec := { name := "fnExactRepairCard", fn := fun _ => fun
  | [d] => { results := [.lit (.bool false)], args := [d] }
  | _ => none }
def FnExactRepairCardWrongFalsely : Prop := fnExactRepairCardRow.holds Try.pinned (OpenSpec.ofChange fnExactRepairCardWrong)

/-- 'laws.FnExactGatherCards': WHATEVER THE INPUT: true; the input reads as it did. -/
def fnExactGatherCardsSpec : ChangeSpec := { name := "fnExactGatherCards", fn := fun _ => fun
  | [d1, d2] => { results := [.lit (.bool true)], args := [d1, d2] }
  | _ => none }
def fnExactGatherCardsRow : OpenClaim := { program := "ytoakjfoioijaaaa", sum := "847900a6c9e5502f4d5f366912612a579ed831ddc8f51ce4bc19a99202323439", func := "loop.example/g01012/laws.FnExactGatherCards", spec := "fnExactGatherCards", unfollowed := true, recurses := true, apart := false }
def FnExactGatherCardsSaid : Prop := fnExactGatherCardsRow.holds Try.pinned (OpenSpec.ofChange fnExactGatherCardsSpec)

/-- ITS FALSE NEIGHBOUR: 'it returns false'. Refute it at one input. -/
def fnExactGatherCardsWrong : ChangeSpec := { name := "fnExactGatherCards", fn := fun _ => fun
  | [d1, d2] => { results := [.lit (.bool false)], args := [d1, d2] }
  | _ => none }
def FnExactGatherCardsWrongFalsely : Prop := fnExactGatherCardsRow.holds Try.pinned (OpenSpec.ofChange fnExactGatherCardsWrong)

/-- 'laws.FnExactAlwaysSorts': WHATEVER THE INPUT: true; the input reads as it did. -/
def fnExactAlwaysSortsSpec : ChangeSpec := { name := "fnExactAlwaysSorts", fn := fun _ => fun
  | [d1, d2] => { results := [.lit (.bool true)], args := [d1, d2] }
  | _ => none }
def fnExactAlwaysSortsRow : OpenClaim := { program := "ytoakjfoioijaaaa", sum := "847900a6c9e5502f4d5f366912612a579ed831ddc8f51ce4bc19a99202323439", func := "loop.example/g01012/laws.FnExactAlwaysSorts", spec := "fnExactAlwaysSorts", unfollowed := true, recurses := true, apart := false }
def FnExactAlwaysSortsSaid : Prop := fnExactAlwaysSortsRow.holds Try.pinned (OpenSpec.ofChange fnExactAlwaysSortsSpec)

/-- ITS FALSE NEIGHBOUR: 'it returns false'. Refute it at one input. -/
def fnExactAlwaysSortsWrong : ChangeSpec := { name := "fnExactAlwaysSorts", fn := fun _ => fun
  | [d1, d2] => { results := [.lit (.bool false)], args := [d1, d2] }
  | _ => none }
def FnExactAlwaysSortsWrongFalsely : Prop := fnExactAlwaysSortsRow.holds Try.pinned (OpenSpec.ofChange fnExactAlwaysSortsWrong)

/-- 'laws.FnExactIsSorted': WHATEVER THE INPUT: true; the input reads as it did. -/
def fnExactIsSortedSpec : ChangeSpec := { name := "fnExactIsSorted", fn := fun _ => fun
  | [d1, d2] => { results := [.lit (.bool true)], args := [d1, d2] }
  | _ => none }
def fnExactIsSortedRow : OpenClaim := { program := "ytoakjfoioijaaaa", sum := "847900a6c9e5502f4d5f366912612a579ed831ddc8f51ce4bc19a99202323439", func := "loop.example/g01012/laws.FnExactIsSorted", spec := "fnExactIsSorted", unfollowed := true, recurses := true, apart := false }
def FnExactIsSortedSaid : Prop := fnExactIsSortedRow.holds Try.pinned (OpenSpec.ofChange fnExactIsSortedSpec)

/-- ITS FALSE NEIGHBOUR: 'it returns false'. Refute it at one input. -/
def fnExactIsSortedWrong : ChangeSpec := { name := "fnExactIsSorted", fn := fun _ => fun
  | [d1, d2] => { results := [.lit (.bool false)], args := [d1, d2] }
  | _ => none }
def FnExactIsSortedWrongFalsely : Prop := fnExactIsSortedRow.holds Try.pinned (OpenSpec.ofChange fnExactIsSortedWrong)

/-- 'laws.FnExactFirstStep': WHATEVER THE INPUT: true; the input reads as it did. -/
def fnExactFirstStepSpec : ChangeSpec := { name := "fnExactFirstStep", fn := fun _ => fun
  | [d1, d2] => { results := [.lit (.bool true)], args := [d1, d2] }
  | _ => none }
def fnExactFirstStepRow : OpenClaim := { program := "ytoakjfoioijaaaa", sum := "847900a6c9e5502f4d5f366912612a579ed831ddc8f51ce4bc19a99202323439", func := "loop.example/g01012/laws.FnExactFirstStep", spec := "fnExactFirstStep", unfollowed := true, recurses := true, apart := false }
def FnExactFirstStepSaid : Prop := fnExactFirstStepRow.holds Try.pinned (OpenSpec.ofChange fnExactFirstStepSpec)

/-- ITS FALSE NEIGHBOUR: 'it returns false'. Refute it at one input. -/
def fnExactFirstStepWrong : ChangeSpec := { name := "fnExactFirstStep", fn := fun _ => fun
  | [d1, d2] => { results := [.lit (.bool false)], args := [d1, d2] }
  | _ => none }
def FnExactFirstStepWrongFalsely : Prop := fnExactFirstStepRow.holds Try.pinned (OpenSpec.ofChange fnExactFirstStepWrong)

/-- 'laws.FnExactRunPass': WHATEVER THE INPUT: true; the input reads as it did. -/
def fnExactRunPassSpec : ChangeSpec := { name := "fnExactRunPass", fn := fun _ => fun
  | [d1, d2] => { results := [.lit (.bool true)], args := [d1, d2] }
  | _ => none }
def fnExactRunPassRow : OpenClaim := { program := "ytoakjfoioijaaaa", sum := "847900a6c9e5502f4d5f366912612a579ed831ddc8f51ce4bc19a99202323439", func := "loop.example/g01012/laws.FnExactRunPass", spec := "fnExactRunPass", unfollowed := true, recurses := true, apart := false }
def FnExactRunPassSaid : Prop := fnExactRunPassRow.holds Try.pinned (OpenSpec.ofChange fnExactRunPassSpec)

/-- ITS FALSE NEIGHBOUR: 'it returns false'. Refute it at one input. -/
def fnExactRunPassWrong : ChangeSpec := { name := "fnExactRunPass", fn := fun _ => fun
  | [d1, d2] => { results := [.lit (.bool false)], args := [d1, d2] }
  | _ => none }
def FnExactRunPassWrongFalsely : Prop := fnExactRunPassRow.holds Try.pinned (OpenSpec.ofChange fnExactRunPassWrong)

/-- 'laws.FnExactRunPasses': WHATEVER THE INPUT: true; the input reads as it did. -/
def fnExactRunPassesSpec : ChangeSpec := { name := "fnExactRunPasses", fn := fun _ => fun
  | [d1, d2] => { results := [.lit (.bool true)], args := [d1, d2] }
  | _ => none }
def fnExactRunPassesRow : OpenClaim := { program := "ytoakjfoioijaaaa", sum := "847900a6c9e5502f4d5f366912612a579ed831ddc8f51ce4bc19a99202323439", func := "loop.example/g01012/laws.FnExactRunPasses", spec := "fnExactRunPasses", unfollowed := true, recurses := true, apart := false }
def FnExactRunPassesSaid : Prop := fnExactRunPassesRow.holds Try.pinned (OpenSpec.ofChange fnExactRunPassesSpec)

/-- ITS FALSE NEIGHBOUR: 'it returns false'. Refute it at one input. -/
def fnExactRunPassesWrong : ChangeSpec := { name := "fnExactRunPasses", fn := fun _ => fun
  | [d1, d2] => { results := [.lit (.bool false)], args := [d1, d2] }
  | _ => none }
def FnExactRunPassesWrongFalsely : Prop := fnExactRunPassesRow.holds Try.pinned (OpenSpec.ofChange fnExactRunPassesWrong)

/-- 'laws.FnExactGroupsOf': WHATEVER THE INPUT: true; the input reads as it did. -/
def fnExactGroupsOfSpec : ChangeSpec := { name := "fnExactGroupsOf", fn := fun _ => fun
  | [d1, d2] => { results := [.lit (.bool true)], args := [d1, d2] }
  | _ => none }
def fnExactGroupsOfRow : OpenClaim := { program := "ytoakjfoioijaaaa", sum := "847900a6c9e5502f4d5f366912612a579ed831ddc8f51ce4bc19a99202323439", func := "loop.example/g01012/laws.FnExactGroupsOf", spec := "fnExactGroupsOf", inPlace := ["internal/bytealg.IndexByteString"], unfollowed := true, recurses := true, apart := false }
def FnExactGroupsOfSaid : Prop := fnExactGroupsOfRow.holds Try.pinned (OpenSpec.ofChange fnExactGroupsOfSpec)

/-- ITS FALSE NEIGHBOUR: 'it returns false'. Refute it at one input. -/
def fnExactGroupsOfWrong : ChangeSpec := { name := "fnExactGroupsOf", fn := fun _ => fun
  | [d1, d2] => { results := [.lit (.bool false)], args := [d1, d2] }
  | _ => none }
def FnExactGroupsOfWrongFalsely : Prop := fnExactGroupsOfRow.holds Try.pinned (OpenSpec.ofChange fnExactGroupsOfWrong)

/-- 'laws.FnExactSequenceErrors': WHATEVER THE INPUT: true; the input reads as it did. -/
def fnExactSequenceErrorsSpec : ChangeSpec := { name := "fnExactSequenceErrors", fn := fun _ => fun
  | [d1, d2] => { results := [.lit (.bool true)], args := [d1, d2] }
  | _ => none }
def fnExactSequenceErrorsRow : OpenClaim := { program := "ytoakjfoioijaaaa", sum := "847900a6c9e5502f4d5f366912612a579ed831ddc8f51ce4bc19a99202323439", func := "loop.example/g01012/laws.FnExactSequenceErrors", spec := "fnExactSequenceErrors", inPlace := ["internal/bytealg.IndexByteString"], unfollowed := true, recurses := true, apart := false }
def FnExactSequenceErrorsSaid : Prop := fnExactSequenceErrorsRow.holds Try.pinned (OpenSpec.ofChange fnExactSequenceErrorsSpec)

/-- ITS FALSE NEIGHBOUR: 'it returns false'. Refute it at one input. -/
def fnExactSequenceErrorsWrong : ChangeSpec := { name := "fnExactSequenceErrors", fn := fun _ => fun
  | [d1, d2] => { results := [.lit (.bool false)], args := [d1, d2] }
  | _ => none }
def FnExactSequenceErrorsWrongFalsely : Prop := fnExactSequenceErrorsRow.holds Try.pinned (OpenSpec.ofChange fnExactSequenceErrorsWrong)

/-- 'laws.FnExactFirstOfGroups': WHATEVER THE INPUT: true; the input reads as it did. -/
def fnExactFirstOfGroupsSpec : ChangeSpec := { name := "fnExactFirstOfGroups", fn := fun _ => fun
  | [d1, d2] => { results := [.lit (.bool true)], args := [d1, d2] }
  | _ => none }
def fnExactFirstOfGroupsRow : OpenClaim := { program := "ytoakjfoioijaaaa", sum := "847900a6c9e5502f4d5f366912612a579ed831ddc8f51ce4bc19a99202323439", func := "loop.example/g01012/laws.FnExactFirstOfGroups", spec := "fnExactFirstOfGroups", inPlace := ["internal/bytealg.IndexByteString"], unfollowed := true, recurses := true, apart := false }
def FnExactFirstOfGroupsSaid : Prop := fnExactFirstOfGroupsRow.holds Try.pinned (OpenSpec.ofChange fnExactFirstOfGroupsSpec)

/-- ITS FALSE NEIGHBOUR: 'it returns false'. Refute it at one input. -/
def fnExactFirstOfGroupsWrong : ChangeSpec := { name := "fnExactFirstOfGroups", fn := fun _ => fun
  | [d1, d2] => { results := [.lit (.bool false)], args := [d1, d2] }
  | _ => none }
def FnExactFirstOfGroupsWrongFalsely : Prop := fnExactFirstOfGroupsRow.holds Try.pinned (OpenSpec.ofChange fnExactFirstOfGroupsWrong)

/- THE SECOND FORM. 'bulk': how many values and letters a reading holds, each counted each time it is reached (what is shared counts as often as it is met; a slice's spare places count too). A statement '..UptoSaid' is the law's where the arguments, and the package variables that the reading takes, are together of bulk at most 1048576: NARROWER than '..Said'. Prove '..Said' where nothing that the law and all that it calls make is longer than what came in: it says more and counts as full. Else prove '..UptoSaid'. A law counts once. -/
mutual
def uptoBulk {H : Type} : DataW H → Nat
  | .lit (.string bytes) => bytes.length + 1
  | .lit _ => 1
  | .nil => 1
  | .ptr d => uptoBulk d + 1
  | .slice elems spare => uptoBulkAll elems + uptoBulkAll spare + 1
  | .agg parts => uptoBulkAll parts + 1
  | .iface _ d => uptoBulk d + 1
  | .map entries => uptoBulkEntries entries + 1
  | .held _ => 1
def uptoBulkAll {H : Type} : List (DataW H) → Nat
  | [] => 0
  | d :: r => uptoBulk d + uptoBulkAll r
def uptoBulkEntries {H : Type} : List (Lit × DataW H) → Nat
  | [] => 0
  | x :: r => uptoBulkEntry x + uptoBulkEntries r
def uptoBulkEntry {H : Type} : Lit × DataW H → Nat
  | (.string bytes, d) => bytes.length + uptoBulk d + 1
  | (_, d) => uptoBulk d + 1
 end
def uptoSmall : (H : Type) → List (DataW H) → Bool := fun _ ds => decide (uptoBulkAll ds ≤ 1048576)
def OpenSpec.upto (s : _root_.Go.ChangeSpec) : _root_.Go.OpenSpec := { _root_.Go.OpenSpec.ofChange s with cond := some uptoSmall }

/-- 'laws.FnExactReproduceCard', WHERE WHAT IT READS IS OF BULK AT MOST 1048576: true; the input reads as it did. -/
def fnExactReproduceCardUptoRow : OpenClaim := { program := "ytoakjfoioijaaaa", sum := "847900a6c9e5502f4d5f366912612a579ed831ddc8f51ce4bc19a99202323439", func := "loop.example/g01012/laws.FnExactReproduceCard", spec := "fnExactReproduceCard", unfollowed := true, recurses := true, apart := false, narrowed := true }
def FnExactReproduceCardUptoSaid : Prop := fnExactReproduceCardUptoRow.holds Try.pinned (OpenSpec.upto fnExactReproduceCardSpec)

/-- 'laws.FnExactRepairCard', WHERE WHAT IT READS IS OF BULK AT MOST 1048576: true; the input reads as it did. -/
def fnExactRepairCardUptoRow : OpenClaim := { program := "ytoakjfoioijaaaa", sum := "847900a6c9e5502f4d5f366912612a579ed831ddc8f51ce4bc19a99202323439", func := "loop.example/g01012/laws.FnExactRepairCard", spec := "fnExactRepairCard", unfollowed := true, recurses := true, apart := false, narrowed := true }
def FnExactRepairCardUptoSaid : Prop := fnExactRepairCardUptoRow.holds Try.pinned (OpenSpec.upto fnExactRepairCardSpec)

/-- 'laws.FnExactGatherCards', WHERE WHAT IT READS IS OF BULK AT MOST 1048576: true; the input reads as it did. -/
def fnExactGatherCardsUptoRow : OpenClaim := { program := "ytoakjfoioijaaaa", sum := "847900a6c9e5502f4d5f366912612a579ed831ddc8f51ce4bc19a99202323439", func := "loop.example/g01012/laws.FnExactGatherCards", spec := "fnExactGatherCards", unfollowed := true, recurses := true, apart := false, narrowed := true }
def FnExactGatherCardsUptoSaid : Prop := fnExactGatherCardsUptoRow.holds Try.pinned (OpenSpec.upto fnExactGatherCardsSpec)

/-- 'laws.FnExactAlwaysSorts', WHERE WHAT IT READS IS OF BULK AT MOST 1048576: true; the input reads as it did. -/
def fnExactAlwaysSortsUptoRow : OpenClaim := { program := "ytoakjfoioijaaaa", sum := "847900a6c9e5502f4d5f366912612a579ed831ddc8f51ce4bc19a99202323439", func := "loop.example/g01012/laws.FnExactAlwaysSorts", spec := "fnExactAlwaysSorts", unfollowed := true, recurses := true, apart := false, narrowed := true }
def FnExactAlwaysSortsUptoSaid : Prop := fnExactAlwaysSortsUptoRow.holds Try.pinned (OpenSpec.upto fnExactAlwaysSortsSpec)

/-- 'laws.FnExactIsSorted', WHERE WHAT IT READS IS OF BULK AT MOST 1048576: true; the input reads as it did. -/
def fnExactIsSortedUptoRow : OpenClaim := { program := "ytoakjfoioijaaaa", sum := "847900a6c9e5502f4d5f366912612a579ed831ddc8f51ce4bc19a99202323439", func := "loop.example/g01012/laws.FnExactIsSorted", spec := "fnExactIsSorted", unfollowed := true, recurses := true, apart := false, narrowed := true }
def FnExactIsSortedUptoSaid : Prop := fnExactIsSortedUptoRow.holds Try.pinned (OpenSpec.upto fnExactIsSortedSpec)

/-- 'laws.FnExactFirstStep', WHERE WHAT IT READS IS OF BULK AT MOST 1048576: true; the input reads as it did. -/
def fnExactFirstStepUptoRow : OpenClaim := { program := "ytoakjfoioijaaaa", sum := "847900a6c9e5502f4d5f366912612a579ed831ddc8f51ce4bc19a99202323439", func := "loop.example/g01012/laws.FnExactFirstStep", spec := "fnExactFirstStep", unfollowed := true, recurses := true, apart := false, narrowed := true }
def FnExactFirstStepUptoSaid : Prop := fnExactFirstStepUptoRow.holds Try.pinned (OpenSpec.upto fnExactFirstStepSpec)

/-- 'laws.FnExactRunPass', WHERE WHAT IT READS IS OF BULK AT MOST 1048576: true; the input reads as it did. -/
def fnExactRunPassUptoRow : OpenClaim := { program := "ytoakjfoioijaaaa", sum := "847900a6c9e5502f4d5f366912612a579ed831ddc8f51ce4bc19a99202323439", func := "loop.example/g01012/laws.FnExactRunPass", spec := "fnExactRunPass", unfollowed := true, recurses := true, apart := false, narrowed := true }
def FnExactRunPassUptoSaid : Prop := fnExactRunPassUptoRow.holds Try.pinned (OpenSpec.upto fnExactRunPassSpec)

/-- 'laws.FnExactRunPasses', WHERE WHAT IT READS IS OF BULK AT MOST 1048576: true; the input reads as it did. -/
def fnExactRunPassesUptoRow : OpenClaim := { program := "ytoakjfoioijaaaa", sum := "847900a6c9e5502f4d5f366912612a579ed831ddc8f51ce4bc19a99202323439", func := "loop.example/g01012/laws.FnExactRunPasses", spec := "fnExactRunPasses", unfollowed := true, recurses := true, apart := false, narrowed := true }
def FnExactRunPassesUptoSaid : Prop := fnExactRunPassesUptoRow.holds Try.pinned (OpenSpec.upto fnExactRunPassesSpec)

/-- 'laws.FnExactGroupsOf', WHERE WHAT IT READS IS OF BULK AT MOST 1048576: true; the input reads as it did. -/
def fnExactGroupsOfUptoRow : OpenClaim := { program := "ytoakjfoioijaaaa", sum := "847900a6c9e5502f4d5f366912612a579ed831ddc8f51ce4bc19a99202323439", func := "loop.example/g01012/laws.FnExactGroupsOf", spec := "fnExactGroupsOf", inPlace := ["internal/bytealg.IndexByteString"], unfollowed := true, recurses := true, apart := false, narrowed := true }
def FnExactGroupsOfUptoSaid : Prop := fnExactGroupsOfUptoRow.holds Try.pinned (OpenSpec.upto fnExactGroupsOfSpec)

/-- 'laws.FnExactSequenceErrors', WHERE WHAT IT READS IS OF BULK AT MOST 1048576: true; the input reads as it did. -/
def fnExactSequenceErrorsUptoRow : OpenClaim := { program := "ytoakjfoioijaaaa", sum := "847900a6c9e5502f4d5f366912612a579ed831ddc8f51ce4bc19a99202323439", func := "loop.example/g01012/laws.FnExactSequenceErrors", spec := "fnExactSequenceErrors", inPlace := ["internal/bytealg.IndexByteString"], unfollowed := true, recurses := true, apart := false, narrowed := true }
def FnExactSequenceErrorsUptoSaid : Prop := fnExactSequenceErrorsUptoRow.holds Try.pinned (OpenSpec.upto fnExactSequenceErrorsSpec)

/-- 'laws.FnExactFirstOfGroups', WHERE WHAT IT READS IS OF BULK AT MOST 1048576: true; the input reads as it did. -/
def fnExactFirstOfGroupsUptoRow : OpenClaim := { program := "ytoakjfoioijaaaa", sum := "847900a6c9e5502f4d5f366912612a579ed831ddc8f51ce4bc19a99202323439", func := "loop.example/g01012/laws.FnExactFirstOfGroups", spec := "fnExactFirstOfGroups", inPlace := ["internal/bytealg.IndexByteString"], unfollowed := true, recurses := true, apart := false, narrowed := true }
def FnExactFirstOfGroupsUptoSaid : Prop := fnExactFirstOfGroupsUptoRow.holds Try.pinned (OpenSpec.upto fnExactFirstOfGroupsSpec)

end Rows
end Go.Proofs.Ytoakjfoioijaaaa
