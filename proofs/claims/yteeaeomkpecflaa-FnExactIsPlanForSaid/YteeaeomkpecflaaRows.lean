/-
  No cell of these rows narrows 'for every input' (looked for: loops, veiled, ifaces, maps, wideKeys, modest, calm, conditions, laid).
  DERIVED. THE GIVEN ROWS OF THIS SEAT. 9 by the template 'for every input the law returns true; each argument reads behind the call as it read before'; 0 by the template 'total and deterministic' (their statements: YteeaeomkpecflaaTotals.lean).
  GIVEN WITH THE SEED: the statements are not yours to turn. If you find one false, say at which input.
  Laid BY PROGRAM, IN A SANDBOX (cutbox-rows.mjs): the forced cells as the released guide's own fill.sh prints them over the translation d609aa4bc8d4c9a2… (all of the seat's roots in one cut). By AI agents, Wed Nov 11 2026. No macro, syntax, notation, axiom, sorry.
-/
import Derived.Test.YteeaeomkpecflaaChecked
import GoSem.Claim
import GoSem.ClaimJoined
import GoSem.ClaimMapViews
import Derived.JoinedTies
import Derived.KernelRfl
namespace Go.Proofs.Yteeaeomkpecflaa
/- THE CELL 'sum', in the pinned program and in every row, IS THE sha256 OF THE DUMP (.gsa) THAT YteeaeomkpecflaaProg.lean LOADS. Nothing in Lean hashes anything: it is a label: what it is worth is what the hold of that sum in a sandbox is worth. -/
noncomputable def Try.pinned : Pinned := { name := "yteeaeomkpecflaa", sum := "d609aa4bc8d4c9a2765fe750c786fb2760c9a7a74e01419c4f266501d7aedf77", checked := Try.checked }
namespace Rows
def none {H : Type} : Left H := { results := [], args := [] }

/-- 'laws.FnExactOrderBy': WHATEVER THE INPUT: true; the input reads as it did. -/
def fnExactOrderBySpec : ChangeSpec := { name := "fnExactOrderBy", fn := fun _ => fun
  | [d1, d2] => { results := [.lit (.bool true)], args := [d1, d2] }
  | _ => none }
def fnExactOrderByRow : OpenClaim := { program := "yteeaeomkpecflaa", sum := "d609aa4bc8d4c9a2765fe750c786fb2760c9a7a74e01419c4f266501d7aedf77", func := "loop.example/g01012/laws.FnExactOrderBy", spec := "fnExactOrderBy", unfollowed := true, recurses := true, apart := false }
def FnExactOrderBySaid : Prop := fnExactOrderByRow.holds Try.pinned (OpenSpec.ofChange fnExactOrderBySpec)

/-- ITS FALSE NEIGHBOUR: 'it returns false'. Refute it at one input. -/
def fnExactOrderByWrong : ChangeSpec := { name := "fnExactOrderBy", fn := fun _ => fun
  | [d1, d2] => { results := [.lit (.bool false)], args := [d1, d2] }
  | _ => none }
def FnExactOrderByWrongFalsely : Prop := fnExactOrderByRow.holds Try.pinned (OpenSpec.ofChange fnExactOrderByWrong)

/-- 'laws.FnExactSortedBy': WHATEVER THE INPUT: true; the input reads as it did. -/
def fnExactSortedBySpec : ChangeSpec := { name := "fnExactSortedBy", fn := fun _ => fun
  | [d1, d2] => { results := [.lit (.bool true)], args := [d1, d2] }
  | _ => none }
def fnExactSortedByRow : OpenClaim := { program := "yteeaeomkpecflaa", sum := "d609aa4bc8d4c9a2765fe750c786fb2760c9a7a74e01419c4f266501d7aedf77", func := "loop.example/g01012/laws.FnExactSortedBy", spec := "fnExactSortedBy", unfollowed := true, recurses := true, apart := false }
def FnExactSortedBySaid : Prop := fnExactSortedByRow.holds Try.pinned (OpenSpec.ofChange fnExactSortedBySpec)

/-- ITS FALSE NEIGHBOUR: 'it returns false'. Refute it at one input. -/
def fnExactSortedByWrong : ChangeSpec := { name := "fnExactSortedBy", fn := fun _ => fun
  | [d1, d2] => { results := [.lit (.bool false)], args := [d1, d2] }
  | _ => none }
def FnExactSortedByWrongFalsely : Prop := fnExactSortedByRow.holds Try.pinned (OpenSpec.ofChange fnExactSortedByWrong)

/-- 'laws.FnExactMergeDecks': WHATEVER THE INPUT: true; the input reads as it did. -/
def fnExactMergeDecksSpec : ChangeSpec := { name := "fnExactMergeDecks", fn := fun _ => fun
  | [d1, d2, d3] => { results := [.lit (.bool true)], args := [d1, d2, d3] }
  | _ => none }
def fnExactMergeDecksRow : OpenClaim := { program := "yteeaeomkpecflaa", sum := "d609aa4bc8d4c9a2765fe750c786fb2760c9a7a74e01419c4f266501d7aedf77", func := "loop.example/g01012/laws.FnExactMergeDecks", spec := "fnExactMergeDecks", inPlace := ["internal/bytealg.IndexByteString"], unfollowed := true, recurses := true, apart := false }
def FnExactMergeDecksSaid : Prop := fnExactMergeDecksRow.holds Try.pinned (OpenSpec.ofChange fnExactMergeDecksSpec)

/-- ITS FALSE NEIGHBOUR: 'it returns false'. Refute it at one input. -/
def fnExactMergeDecksWrong : ChangeSpec := { name := "fnExactMergeDecks", fn := fun _ => fun
  | [d1, d2, d3] => { results := [.lit (.bool false)], args := [d1, d2, d3] }
  | _ => none }
def FnExactMergeDecksWrongFalsely : Prop := fnExactMergeDecksRow.holds Try.pinned (OpenSpec.ofChange fnExactMergeDecksWrong)

/-- 'laws.FnExactInsertCard': WHATEVER THE INPUT: true; the input reads as it did. -/
def fnExactInsertCardSpec : ChangeSpec := { name := "fnExactInsertCard", fn := fun _ => fun
  | [d1, d2, d3] => { results := [.lit (.bool true)], args := [d1, d2, d3] }
  | _ => none }
def fnExactInsertCardRow : OpenClaim := { program := "yteeaeomkpecflaa", sum := "d609aa4bc8d4c9a2765fe750c786fb2760c9a7a74e01419c4f266501d7aedf77", func := "loop.example/g01012/laws.FnExactInsertCard", spec := "fnExactInsertCard", inPlace := ["internal/bytealg.IndexByteString"], unfollowed := true, recurses := true, apart := false }
def FnExactInsertCardSaid : Prop := fnExactInsertCardRow.holds Try.pinned (OpenSpec.ofChange fnExactInsertCardSpec)

/-- ITS FALSE NEIGHBOUR: 'it returns false'. Refute it at one input. -/
def fnExactInsertCardWrong : ChangeSpec := { name := "fnExactInsertCard", fn := fun _ => fun
  | [d1, d2, d3] => { results := [.lit (.bool false)], args := [d1, d2, d3] }
  | _ => none }
def FnExactInsertCardWrongFalsely : Prop := fnExactInsertCardRow.holds Try.pinned (OpenSpec.ofChange fnExactInsertCardWrong)

/-- 'laws.FnExactIsPlanFor': WHATEVER THE INPUT: true; the input reads as it did. -/
def fnExactIsPlanForSpec : ChangeSpec := { name := "fnExactIsPlanFor", fn := fun _ => fun
  | [d1, d2, d3] => { results := [.lit (.bool true)], args := [d1, d2, d3] }
  | _ => none }
def fnExactIsPlanForRow : OpenClaim := { program := "yteeaeomkpecflaa", sum := "d609aa4bc8d4c9a2765fe750c786fb2760c9a7a74e01419c4f266501d7aedf77", func := "loop.example/g01012/laws.FnExactIsPlanFor", spec := "fnExactIsPlanFor", unfollowed := true, recurses := true, apart := false }
def FnExactIsPlanForSaid : Prop := fnExactIsPlanForRow.holds Try.pinned (OpenSpec.ofChange fnExactIsPlanForSpec)

/-- ITS FALSE NEIGHBOUR: 'it returns false'. Refute it at one input. -/
def fnExactIsPlanForWrong : ChangeSpec := { name := "fnExactIsPlanFor", fn := fun _ => fun
  | [d1, d2, d3] => { results := [.lit (.bool false)], args := [d1, d2, d3] }
  | _ => none }
def FnExactIsPlanForWrongFalsely : Prop := fnExactIsPlanForRow.holds Try.pinned (OpenSpec.ofChange fnExactIsPlanForWrong)

/-- 'laws.FnSorted': WHATEVER THE INPUT: true; the input reads as it did. -/
def fnSortedSpec : ChangeSpec := { name := "fnSorted", fn := fun _ => fun
  | [d1, d2] => { results := [.lit (.bool true)], args := [d1, d2] }
  | _ => none }
def fnSortedRow : OpenClaim := { program := "yteeaeomkpecflaa", sum := "d609aa4bc8d4c9a2765fe750c786fb2760c9a7a74e01419c4f266501d7aedf77", func := "loop.example/g01012/laws.FnSorted", spec := "fnSorted", unfollowed := true, recurses := true, apart := false }
def FnSortedSaid : Prop := fnSortedRow.holds Try.pinned (OpenSpec.ofChange fnSortedSpec)

/-- ITS FALSE NEIGHBOUR: 'it returns false'. Refute it at one input. -/
def fnSortedWrong : ChangeSpec := { name := "fnSorted", fn := fun _ => fun
  | [d1, d2] => { results := [.lit (.bool false)], args := [d1, d2] }
  | _ => none }
def FnSortedWrongFalsely : Prop := fnSortedRow.holds Try.pinned (OpenSpec.ofChange fnSortedWrong)

/-- 'laws.FnMerged': WHATEVER THE INPUT: true; the input reads as it did. -/
def fnMergedSpec : ChangeSpec := { name := "fnMerged", fn := fun _ => fun
  | [d] => { results := [.lit (.bool true)], args := [d] }
  | _ => none }
def fnMergedRow : OpenClaim := { program := "yteeaeomkpecflaa", sum := "d609aa4bc8d4c9a2765fe750c786fb2760c9a7a74e01419c4f266501d7aedf77", func := "loop.example/g01012/laws.FnMerged", spec := "fnMerged", inPlace := ["internal/bytealg.IndexByteString"], unfollowed := true, recurses := true, apart := false }
def FnMergedSaid : Prop := fnMergedRow.holds Try.pinned (OpenSpec.ofChange fnMergedSpec)

/-- ITS FALSE NEIGHBOUR: 'it returns false'. Refute it at one input. -/
def fnMergedWrong : ChangeSpec := { name := "fnMerged", fn := fun _ => fun
  | [d] => { results := [.lit (.bool false)], args := [d] }
  | _ => none }
def FnMergedWrongFalsely : Prop := fnMergedRow.holds Try.pinned (OpenSpec.ofChange fnMergedWrong)

/-- 'laws.FnPockets': WHATEVER THE INPUT: true; the input reads as it did. -/
def fnPocketsSpec : ChangeSpec := { name := "fnPockets", fn := fun _ => fun
  | [d1, d2] => { results := [.lit (.bool true)], args := [d1, d2] }
  | _ => none }
def fnPocketsRow : OpenClaim := { program := "yteeaeomkpecflaa", sum := "d609aa4bc8d4c9a2765fe750c786fb2760c9a7a74e01419c4f266501d7aedf77", func := "loop.example/g01012/laws.FnPockets", spec := "fnPockets", unfollowed := true, recurses := true, apart := false }
def FnPocketsSaid : Prop := fnPocketsRow.holds Try.pinned (OpenSpec.ofChange fnPocketsSpec)

/-- ITS FALSE NEIGHBOUR: 'it returns false'. Refute it at one input. -/
def fnPocketsWrong : ChangeSpec := { name := "fnPockets", fn := fun _ => fun
  | [d1, d2] => { results := [.lit (.bool false)], args := [d1, d2] }
  | _ => none }
def FnPocketsWrongFalsely : Prop := fnPocketsRow.holds Try.pinned (OpenSpec.ofChange fnPocketsWrong)

/-- 'laws.FnGroups': WHATEVER THE INPUT: true; the input reads as it did. -/
def fnGroupsSpec : ChangeSpec := { name := "fnGroups", fn := fun _ => fun
  | [d1, d2] => { results := [.lit (.bool true)], args := [d1, d2] }
  | _ => none }
def fnGroupsRow : OpenClaim := { program := "yteeaeomkpecflaa", sum := "d609aa4bc8d4c9a2765fe750c786fb2760c9a7a74e01419c4f266501d7aedf77", func := "loop.example/g01012/laws.FnGroups", spec := "fnGroups", inPlace := ["internal/bytealg.IndexByteString"], unfollowed := true, recurses := true, apart := false }
def FnGroupsSaid : Prop := fnGroupsRow.holds Try.pinned (OpenSpec.ofChange fnGroupsSpec)

/-- ITS FALSE NEIGHBOUR: 'it returns false'. Refute it at one input. -/
def fnGroupsWrong : ChangeSpec := { name := "fnGroups", fn := fun _ => fun
  | [d1, d2] => { results := [.lit (.bool false)], args := [d1, d2] }
  | _ => none }
def FnGroupsWrongFalsely : Prop := fnGroupsRow.holds Try.pinned (OpenSpec.ofChange fnGroupsWrong)

/- THE SECOND FORM. 'bulk': how many values and letters a reading holds, each counted each time it is reached (what is shared counts as often as it is met; a slice's spare places count too). A statement '..UptoSaid' is the law's where the arguments, and the package variables that the reading takes, are together of bulk at most 1048576: NARROWER than '..Said'. Prove '..Said' where nothing that the law and all that it calls make is longer than what came in: it says more and counts as full. Else prove '..UptoSaid'. A law counts once. -/
mutual
def uptoBulk {H : Type} : DataW H → Nat
  | .lit (.string bytes) => bytes.length + 1
  | .lit _ => 1
  | .nil => 1
  | .ptr d => uptoBulk d + 1
  | .slice elems spare => uptoBulkAll elems + uptoBulkAll spare + 1
  | .agg parts => uptoBulkAll parts + 1
  | .iface _ d => uptoBulk d + 1
  | .map entries => uptoBulkEntries entries + 1
  | .held _ => 1
def uptoBulkAll {H : Type} : List (DataW H) → Nat
  | [] => 0
  | d :: r => uptoBulk d + uptoBulkAll r
def uptoBulkEntries {H : Type} : List (Lit × DataW H) → Nat
  | [] => 0
  | x :: r => uptoBulkEntry x + uptoBulkEntries r
def uptoBulkEntry {H : Type} : Lit × DataW H → Nat
  | (.string bytes, d) => bytes.length + uptoBulk d + 1
  | (_, d) => uptoBulk d + 1
 end
def uptoSmall : (H : Type) → List (DataW H) → Bool := fun _ ds => decide (uptoBulkAll ds ≤ 1048576)
def OpenSpec.upto (s : _root_.Go.ChangeSpec) : _root_.Go.OpenSpec := { _root_.Go.OpenSpec.ofChange s with cond := some uptoSmall }

/-- 'laws.FnExactOrderBy', WHERE WHAT IT READS IS OF BULK AT MOST 1048576: true; the input reads as it did. -/
def fnExactOrderByUptoRow : OpenClaim := { program := "yteeaeomkpecflaa", sum := "d609aa4bc8d4c9a2765fe750c786fb2760c9a7a74e01419c4f266501d7aedf77", func := "loop.example/g01012/laws.FnExactOrderBy", spec := "fnExactOrderBy", unfollowed := true, recurses := true, apart := false, narrowed := true }
def FnExactOrderByUptoSaid : Prop := fnExactOrderByUptoRow.holds Try.pinned (OpenSpec.upto fnExactOrderBySpec)

/-- 'laws.FnExactSortedBy', WHERE WHAT IT READS IS OF BULK AT MOST 1048576: true; the input reads as it did. -/
def fnExactSortedByUptoRow : OpenClaim := { program := "yteeaeomkpecflaa", sum := "d609aa4bc8d4c9a2765fe750c786fb2760c9a7a74e01419c4f266501d7aedf77", func := "loop.example/g01012/laws.FnExactSortedBy", spec := "fnExactSortedBy", unfollowed := true, recurses := true, apart := false, narrowed := true }
def FnExactSortedByUptoSaid : Prop := fnExactSortedByUptoRow.holds Try.pinned (OpenSpec.upto fnExactSortedBySpec)

/-- 'laws.FnExactMergeDecks', WHERE WHAT IT READS IS OF BULK AT MOST 1048576: true; the input reads as it did. -/
def fnExactMergeDecksUptoRow : OpenClaim := { program := "yteeaeomkpecflaa", sum := "d609aa4bc8d4c9a2765fe750c786fb2760c9a7a74e01419c4f266501d7aedf77", func := "loop.example/g01012/laws.FnExactMergeDecks", spec := "fnExactMergeDecks", inPlace := ["internal/bytealg.IndexByteString"], unfollowed := true, recurses := true, apart := false, narrowed := true }
def FnExactMergeDecksUptoSaid : Prop := fnExactMergeDecksUptoRow.holds Try.pinned (OpenSpec.upto fnExactMergeDecksSpec)

/-- 'laws.FnExactInsertCard', WHERE WHAT IT READS IS OF BULK AT MOST 1048576: true; the input reads as it did. -/
def fnExactInsertCardUptoRow : OpenClaim := { program := "yteeaeomkpecflaa", sum := "d609aa4bc8d4c9a2765fe750c786fb2760c9a7a74e01419c4f266501d7aedf77", func := "loop.example/g01012/laws.FnExactInsertCard", spec := "fnExactInsertCard", inPlace := ["internal/bytealg.IndexByteString"], unfollowed := true, recurses := true, apart := false, narrowed := true }
def FnExactInsertCardUptoSaid : Prop := fnExactInsertCardUptoRow.holds Try.pinned (OpenSpec.upto fnExactInsertCardSpec)

/-- 'laws.FnExactIsPlanFor', WHERE WHAT IT READS IS OF BULK AT MOST 1048576: true; the input reads as it did. -/
def fnExactIsPlanForUptoRow : OpenClaim := { program := "yteeaeomkpecflaa", sum := "d609aa4bc8d4c9a2765fe750c786fb2760c9a7a74e01419c4f266501d7aedf77", func := "loop.example/g01012/laws.FnExactIsPlanFor", spec := "fnExactIsPlanFor", unfollowed := true, recurses := true, apart := false, narrowed := true }
def FnExactIsPlanForUptoSaid : Prop := fnExactIsPlanForUptoRow.holds Try.pinned (OpenSpec.upto fnExactIsPlanForSpec)

/-- 'laws.FnSorted', WHERE WHAT IT READS IS OF BULK AT MOST 1048576: true; the input reads as it did. -/
def fnSortedUptoRow : OpenClaim := { program := "yteeaeomkpecflaa", sum := "d609aa4bc8d4c9a2765fe750c786fb2760c9a7a74e01419c4f266501d7aedf77", func := "loop.example/g01012/laws.FnSorted", spec := "fnSorted", unfollowed := true, recurses := true, apart := false, narrowed := true }
def FnSortedUptoSaid : Prop := fnSortedUptoRow.holds Try.pinned (OpenSpec.upto fnSortedSpec)

/-- 'laws.FnMerged', WHERE WHAT IT READS IS OF BULK AT MOST 1048576: true; the input reads as it did. -/
def fnMergedUptoRow : OpenClaim := { program := "yteeaeomkpecflaa", sum := "d609aa4bc8d4c9a2765fe750c786fb2760c9a7a74e01419c4f266501d7aedf77", func := "loop.example/g01012/laws.FnMerged", spec := "fnMerged", inPlace := ["internal/bytealg.IndexByteString"], unfollowed := true, recurses := true, apart := false, narrowed := true }
def FnMergedUptoSaid : Prop := fnMergedUptoRow.holds Try.pinned (OpenSpec.upto fnMergedSpec)

/-- 'laws.FnPockets', WHERE WHAT IT READS IS OF BULK AT MOST 1048576: true; the input reads as it did. -/
def fnPocketsUptoRow : OpenClaim := { program := "yteeaeomkpecflaa", sum := "d609aa4bc8d4c9a2765fe750c786fb2760c9a7a74e01419c4f266501d7aedf77", func := "loop.example/g01012/laws.FnPockets", spec := "fnPockets", unfollowed := true, recurses := true, apart := false, narrowed := true }
def FnPocketsUptoSaid : Prop := fnPocketsUptoRow.holds Try.pinned (OpenSpec.upto fnPocketsSpec)

/-- 'laws.FnGroups', WHERE WHAT IT READS IS OF BULK AT MOST 1048576: true; the input reads as it did. -/
def fnGroupsUptoRow : OpenClaim := { program := "yteeaeomkpecflaa", sum := "d609aa4bc8d4c9a2765fe750c786fb2760c9a7a74e01419c4f266501d7aedf77", func := "loop.example/g01012/laws.FnGroups", spec := "fnGroups", inPlace := ["internal/bytealg.IndexByteString"], unfollowed := true, recurses := true, apart := false, narrowed := true }
def FnGroupsUptoSaid : Prop := fnGroupsUptoRow.holds Try.pinned (OpenSpec.upto fnGroupsSpec)

end Rows
end Go.Proofs.Yteeaeomkpecflaa
