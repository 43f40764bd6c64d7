/-
  No cell of these rows narrows 'for every input' (looked for: loops, veiled, ifaces, maps, wideKeys, modest, calm, conditions, laid).
  DERIVED. THE GIVEN ROWS OF THIS SEAT. 12 by the template 'for every input the law returns true; each argument reads behind the call as it read before'; 0 by the template 'total and deterministic' (their statements: YtlnpkijeondidaaTotals.lean).
  GIVEN WITH THE SEED: the statements are not yours to turn. If you find one false, say at which input.
  Laid BY PROGRAM, IN A SANDBOX (cutbox-rows.mjs): the forced cells as the released guide's own fill.sh prints them over the translation cef9ccaedae33a2b… (all of the seat's roots in one cut). By AI agents, Wed Nov 11 2026. No macro, syntax, notation, axiom, sorry.
-/
import Derived.Test.YtlnpkijeondidaaChecked
import GoSem.Claim
import GoSem.ClaimJoined
import GoSem.ClaimMapViews
import Derived.JoinedTies
import Derived.KernelRfl
namespace Go.Proofs.Ytlnpkijeondidaa
/- THE CELL 'sum', in the pinned program and in every row, IS THE sha256 OF THE DUMP (.gsa) THAT YtlnpkijeondidaaProg.lean LOADS. Nothing in Lean hashes anything: it is a label: what it is worth is what the hold of that sum in a sandbox is worth. -/
noncomputable def Try.pinned : Pinned := { name := "ytlnpkijeondidaa", sum := "cef9ccaedae33a2b074a343015c9914058e752b739153380d8fb23040ba56e9c", checked := Try.checked }
namespace Rows
def none {H : Type} : Left H := { results := [], args := [] }

/-- 'laws.FnExactDistanceOf': WHATEVER THE INPUT: true; the input reads as it did. -/
def fnExactDistanceOfSpec : ChangeSpec := { name := "fnExactDistanceOf", fn := fun _ => fun
  | [d1, d2] => { results := [.lit (.bool true)], args := [d1, d2] }
  | _ => none }
def fnExactDistanceOfRow : OpenClaim := { program := "ytlnpkijeondidaa", sum := "cef9ccaedae33a2b074a343015c9914058e752b739153380d8fb23040ba56e9c", func := "loop.example/g01012/laws.FnExactDistanceOf", spec := "fnExactDistanceOf", unfollowed := true, recurses := true, apart := false }
def FnExactDistanceOfSaid : Prop := fnExactDistanceOfRow.holds Try.pinned (OpenSpec.ofChange fnExactDistanceOfSpec)

/-- ITS FALSE NEIGHBOUR: 'it returns false'. Refute it at one input. -/
def fnExactDistanceOfWrong : ChangeSpec := { name := "fnExactDistanceOf", fn := fun _ => fun
  | [d1, d2] => { results := [.lit (.bool false)], args := [d1, d2] }
  | _ => none }
def FnExactDistanceOfWrongFalsely : Prop := fnExactDistanceOfRow.holds Try.pinned (OpenSpec.ofChange fnExactDistanceOfWrong)

/-- 'laws.FnExactShiftOf': WHATEVER THE INPUT: true; the input reads as it did. -/
def fnExactShiftOfSpec : ChangeSpec := { name := "fnExactShiftOf", fn := fun _ => fun
  | [d1, d2] => { results := [.lit (.bool true)], args := [d1, d2] }
  | _ => none }
def fnExactShiftOfRow : OpenClaim := { program := "ytlnpkijeondidaa", sum := "cef9ccaedae33a2b074a343015c9914058e752b739153380d8fb23040ba56e9c", func := "loop.example/g01012/laws.FnExactShiftOf", spec := "fnExactShiftOf", unfollowed := true, recurses := true, apart := false }
def FnExactShiftOfSaid : Prop := fnExactShiftOfRow.holds Try.pinned (OpenSpec.ofChange fnExactShiftOfSpec)

/-- ITS FALSE NEIGHBOUR: 'it returns false'. Refute it at one input. -/
def fnExactShiftOfWrong : ChangeSpec := { name := "fnExactShiftOf", fn := fun _ => fun
  | [d1, d2] => { results := [.lit (.bool false)], args := [d1, d2] }
  | _ => none }
def FnExactShiftOfWrongFalsely : Prop := fnExactShiftOfRow.holds Try.pinned (OpenSpec.ofChange fnExactShiftOfWrong)

/-- 'laws.FnExactPocketOf': WHATEVER THE INPUT: true; the input reads as it did. -/
def fnExactPocketOfSpec : ChangeSpec := { name := "fnExactPocketOf", fn := fun _ => fun
  | [d1, d2] => { results := [.lit (.bool true)], args := [d1, d2] }
  | _ => none }
def fnExactPocketOfRow : OpenClaim := { program := "ytlnpkijeondidaa", sum := "cef9ccaedae33a2b074a343015c9914058e752b739153380d8fb23040ba56e9c", func := "loop.example/g01012/laws.FnExactPocketOf", spec := "fnExactPocketOf", unfollowed := true, recurses := true, apart := false }
def FnExactPocketOfSaid : Prop := fnExactPocketOfRow.holds Try.pinned (OpenSpec.ofChange fnExactPocketOfSpec)

/-- ITS FALSE NEIGHBOUR: 'it returns false'. Refute it at one input. -/
def fnExactPocketOfWrong : ChangeSpec := { name := "fnExactPocketOf", fn := fun _ => fun
  | [d1, d2] => { results := [.lit (.bool false)], args := [d1, d2] }
  | _ => none }
def FnExactPocketOfWrongFalsely : Prop := fnExactPocketOfRow.holds Try.pinned (OpenSpec.ofChange fnExactPocketOfWrong)

/-- 'laws.FnExactCompareCards': WHATEVER THE INPUT: true; the input reads as it did. -/
def fnExactCompareCardsSpec : ChangeSpec := { name := "fnExactCompareCards", fn := fun _ => fun
  | [d1, d2, d3] => { results := [.lit (.bool true)], args := [d1, d2, d3] }
  | _ => none }
def fnExactCompareCardsRow : OpenClaim := { program := "ytlnpkijeondidaa", sum := "cef9ccaedae33a2b074a343015c9914058e752b739153380d8fb23040ba56e9c", func := "loop.example/g01012/laws.FnExactCompareCards", spec := "fnExactCompareCards", unfollowed := true, recurses := true, apart := false }
def FnExactCompareCardsSaid : Prop := fnExactCompareCardsRow.holds Try.pinned (OpenSpec.ofChange fnExactCompareCardsSpec)

/-- ITS FALSE NEIGHBOUR: 'it returns false'. Refute it at one input. -/
def fnExactCompareCardsWrong : ChangeSpec := { name := "fnExactCompareCards", fn := fun _ => fun
  | [d1, d2, d3] => { results := [.lit (.bool false)], args := [d1, d2, d3] }
  | _ => none }
def FnExactCompareCardsWrongFalsely : Prop := fnExactCompareCardsRow.holds Try.pinned (OpenSpec.ofChange fnExactCompareCardsWrong)

/-- 'laws.FnExactReproduceCard': WHATEVER THE INPUT: true; the input reads as it did. -/
def fnExactReproduceCardSpec : ChangeSpec := { name := "fnExactReproduceCard", fn := fun _ => fun
  | [d1, d2, d3] => { results := [.lit (.bool true)], args := [d1, d2, d3] }
  | _ => none }
def fnExactReproduceCardRow : OpenClaim := { program := "ytlnpkijeondidaa", sum := "cef9ccaedae33a2b074a343015c9914058e752b739153380d8fb23040ba56e9c", func := "loop.example/g01012/laws.FnExactReproduceCard", spec := "fnExactReproduceCard", unfollowed := true, recurses := true, apart := false }
def FnExactReproduceCardSaid : Prop := fnExactReproduceCardRow.holds Try.pinned (OpenSpec.ofChange fnExactReproduceCardSpec)

/-- ITS FALSE NEIGHBOUR: 'it returns false'. Refute it at one input. -/
def fnExactReproduceCardWrong : ChangeSpec := { name := "fnExactReproduceCard", fn := fun _ => fun
  | [d1, d2, d3] => { results := [.lit (.bool false)], args := [d1, d2, d3] }
  | _ => none }
def FnExactReproduceCardWrongFalsely : Prop := fnExactReproduceCardRow.holds Try.pinned (OpenSpec.ofChange fnExactReproduceCardWrong)

/-- 'laws.FnExactNearestCard': WHATEVER THE INPUT: true; the input reads as it did. -/
def fnExactNearestCardSpec : ChangeSpec := { name := "fnExactNearestCard", fn := fun _ => fun
  | [d1, d2] => { results := [.lit (.bool true)], args := [d1, d2] }
  | _ => none }
def fnExactNearestCardRow : OpenClaim := { program := "ytlnpkijeondidaa", sum := "cef9ccaedae33a2b074a343015c9914058e752b739153380d8fb23040ba56e9c", func := "loop.example/g01012/laws.FnExactNearestCard", spec := "fnExactNearestCard", unfollowed := true, recurses := true, apart := false }
def FnExactNearestCardSaid : Prop := fnExactNearestCardRow.holds Try.pinned (OpenSpec.ofChange fnExactNearestCardSpec)

/-- ITS FALSE NEIGHBOUR: 'it returns false'. Refute it at one input. -/
def fnExactNearestCardWrong : ChangeSpec := { name := "fnExactNearestCard", fn := fun _ => fun
  | [d1, d2] => { results := [.lit (.bool false)], args := [d1, d2] }
  | _ => none }
def FnExactNearestCardWrongFalsely : Prop := fnExactNearestCardRow.holds Try.pinned (OpenSpec.ofChange fnExactNearestCardWrong)

/-- 'laws.FnExactRepairCard': WHATEVER THE INPUT: true; the input reads as it did. -/
def fnExactRepairCardSpec : ChangeSpec := { name := "fnExactRepairCard", fn := fun _ => fun
  | [d] => { results := [.lit (.bool true)], args := [d] }
  | _ => none }
def fnExactRepairCardRow : OpenClaim := { program := "ytlnpkijeondidaa", sum := "cef9ccaedae33a2b074a343015c9914058e752b739153380d8fb23040ba56e9c", func := "loop.example/g01012/laws.FnExactRepairCard", spec := "fnExactRepairCard", unfollowed := true, recurses := true, apart := false }
def FnExactRepairCardSaid : Prop := fnExactRepairCardRow.holds Try.pinned (OpenSpec.ofChange fnExactRepairCardSpec)

/-- ITS FALSE NEIGHBOUR: 'it returns false'. Refute it at one input. -/
def fnExactRepairCardWrong : ChangeSpec := { name := "fnExactRepairCard", fn := fun _ => fun
  | [d] => { results := [.lit (.bool false)], args := [d] }
  | _ => none }
def FnExactRepairCardWrongFalsely : Prop := fnExactRepairCardRow.holds Try.pinned (OpenSpec.ofChange fnExactRepairCardWrong)

/-- 'laws.FnExactIsIdlePass': WHATEVER THE INPUT: true; the input reads as it did. -/
def fnExactIsIdlePassSpec : ChangeSpec := { name := "fnExactIsIdlePass", fn := fun _ => fun
  | [d1, d2] => { results := [.lit (.bool true)], args := [d1, d2] }
  | _ => none }
def fnExactIsIdlePassRow : OpenClaim := { program := "ytlnpkijeondidaa", sum := "cef9ccaedae33a2b074a343015c9914058e752b739153380d8fb23040ba56e9c", func := "loop.example/g01012/laws.FnExactIsIdlePass", spec := "fnExactIsIdlePass", unfollowed := true, recurses := true, apart := false }
def FnExactIsIdlePassSaid : Prop := fnExactIsIdlePassRow.holds Try.pinned (OpenSpec.ofChange fnExactIsIdlePassSpec)

/-- ITS FALSE NEIGHBOUR: 'it returns false'. Refute it at one input. -/
def fnExactIsIdlePassWrong : ChangeSpec := { name := "fnExactIsIdlePass", fn := fun _ => fun
  | [d1, d2] => { results := [.lit (.bool false)], args := [d1, d2] }
  | _ => none }
def FnExactIsIdlePassWrongFalsely : Prop := fnExactIsIdlePassRow.holds Try.pinned (OpenSpec.ofChange fnExactIsIdlePassWrong)

/-- 'laws.FnExactCompareDecks': WHATEVER THE INPUT: true; the input reads as it did. -/
def fnExactCompareDecksSpec : ChangeSpec := { name := "fnExactCompareDecks", fn := fun _ => fun
  | [d1, d2, d3] => { results := [.lit (.bool true)], args := [d1, d2, d3] }
  | _ => none }
def fnExactCompareDecksRow : OpenClaim := { program := "ytlnpkijeondidaa", sum := "cef9ccaedae33a2b074a343015c9914058e752b739153380d8fb23040ba56e9c", func := "loop.example/g01012/laws.FnExactCompareDecks", spec := "fnExactCompareDecks", unfollowed := true, recurses := true, apart := false }
def FnExactCompareDecksSaid : Prop := fnExactCompareDecksRow.holds Try.pinned (OpenSpec.ofChange fnExactCompareDecksSpec)

/-- ITS FALSE NEIGHBOUR: 'it returns false'. Refute it at one input. -/
def fnExactCompareDecksWrong : ChangeSpec := { name := "fnExactCompareDecks", fn := fun _ => fun
  | [d1, d2, d3] => { results := [.lit (.bool false)], args := [d1, d2, d3] }
  | _ => none }
def FnExactCompareDecksWrongFalsely : Prop := fnExactCompareDecksRow.holds Try.pinned (OpenSpec.ofChange fnExactCompareDecksWrong)

/-- 'laws.FnExactGatherCards': WHATEVER THE INPUT: true; the input reads as it did. -/
def fnExactGatherCardsSpec : ChangeSpec := { name := "fnExactGatherCards", fn := fun _ => fun
  | [d1, d2] => { results := [.lit (.bool true)], args := [d1, d2] }
  | _ => none }
def fnExactGatherCardsRow : OpenClaim := { program := "ytlnpkijeondidaa", sum := "cef9ccaedae33a2b074a343015c9914058e752b739153380d8fb23040ba56e9c", func := "loop.example/g01012/laws.FnExactGatherCards", spec := "fnExactGatherCards", unfollowed := true, recurses := true, apart := false }
def FnExactGatherCardsSaid : Prop := fnExactGatherCardsRow.holds Try.pinned (OpenSpec.ofChange fnExactGatherCardsSpec)

/-- ITS FALSE NEIGHBOUR: 'it returns false'. Refute it at one input. -/
def fnExactGatherCardsWrong : ChangeSpec := { name := "fnExactGatherCards", fn := fun _ => fun
  | [d1, d2] => { results := [.lit (.bool false)], args := [d1, d2] }
  | _ => none }
def FnExactGatherCardsWrongFalsely : Prop := fnExactGatherCardsRow.holds Try.pinned (OpenSpec.ofChange fnExactGatherCardsWrong)

/-- 'laws.FnExactAlwaysSorts': WHATEVER THE INPUT: true; the input reads as it did. -/
def fnExactAlwaysSortsSpec : ChangeSpec := { name := "fnExactAlwaysSorts", fn := fun _ => fun
  | [d1, d2] => { results := [.lit (.bool true)], args := [d1, d2] }
  | _ => none }
def fnExactAlwaysSortsRow : OpenClaim := { program := "ytlnpkijeondidaa", sum := "cef9ccaedae33a2b074a343015c9914058e752b739153380d8fb23040ba56e9c", func := "loop.example/g01012/laws.FnExactAlwaysSorts", spec := "fnExactAlwaysSorts", unfollowed := true, recurses := true, apart := false }
def FnExactAlwaysSortsSaid : Prop := fnExactAlwaysSortsRow.holds Try.pinned (OpenSpec.ofChange fnExactAlwaysSortsSpec)

/-- ITS FALSE NEIGHBOUR: 'it returns false'. Refute it at one input. -/
def fnExactAlwaysSortsWrong : ChangeSpec := { name := "fnExactAlwaysSorts", fn := fun _ => fun
  | [d1, d2] => { results := [.lit (.bool false)], args := [d1, d2] }
  | _ => none }
def FnExactAlwaysSortsWrongFalsely : Prop := fnExactAlwaysSortsRow.holds Try.pinned (OpenSpec.ofChange fnExactAlwaysSortsWrong)

/-- 'laws.FnExactSortPass': WHATEVER THE INPUT: true; the input reads as it did. -/
def fnExactSortPassSpec : ChangeSpec := { name := "fnExactSortPass", fn := fun _ => fun
  | [d1, d2] => { results := [.lit (.bool true)], args := [d1, d2] }
  | _ => none }
def fnExactSortPassRow : OpenClaim := { program := "ytlnpkijeondidaa", sum := "cef9ccaedae33a2b074a343015c9914058e752b739153380d8fb23040ba56e9c", func := "loop.example/g01012/laws.FnExactSortPass", spec := "fnExactSortPass", unfollowed := true, recurses := true, apart := false }
def FnExactSortPassSaid : Prop := fnExactSortPassRow.holds Try.pinned (OpenSpec.ofChange fnExactSortPassSpec)

/-- ITS FALSE NEIGHBOUR: 'it returns false'. Refute it at one input. -/
def fnExactSortPassWrong : ChangeSpec := { name := "fnExactSortPass", fn := fun _ => fun
  | [d1, d2] => { results := [.lit (.bool false)], args := [d1, d2] }
  | _ => none }
def FnExactSortPassWrongFalsely : Prop := fnExactSortPassRow.holds Try.pinned (OpenSpec.ofChange fnExactSortPassWrong)

/- THE SECOND FORM. 'bulk': how many values and letters a reading holds, each counted each time it is reached (what is shared counts as often as it is met; a slice's spare places count too). A statement '..UptoSaid' is the law's where the arguments, and the package variables that the reading takes, are together of bulk at most 1048576: NARROWER than '..Said'. Prove '..Said' where nothing that the law and all that it calls make is longer than what came in: it says more and counts as full. Else prove '..UptoSaid'. A law counts once. -/
mutual
def uptoBulk {H : Type} : DataW H → Nat
  | .lit (.string bytes) => bytes.length + 1
  | .lit _ => 1
  | .nil => 1
  | .ptr d => uptoBulk d + 1
  | .slice elems spare => uptoBulkAll elems + uptoBulkAll spare + 1
  | .agg parts => uptoBulkAll parts + 1
  | .iface _ d => uptoBulk d + 1
  | .map entries => uptoBulkEntries entries + 1
  | .held _ => 1
def uptoBulkAll {H : Type} : List (DataW H) → Nat
  | [] => 0
  | d :: r => uptoBulk d + uptoBulkAll r
def uptoBulkEntries {H : Type} : List (Lit × DataW H) → Nat
  | [] => 0
  | x :: r => uptoBulkEntry x + uptoBulkEntries r
def uptoBulkEntry {H : Type} : Lit × DataW H → Nat
  | (.string bytes, d) => bytes.length + uptoBulk d + 1
  | (_, d) => uptoBulk d + 1
 end
def uptoSmall : (H : Type) → List (DataW H) → Bool := fun _ ds => decide (uptoBulkAll ds ≤ 1048576)
def OpenSpec.upto (s : _root_.Go.ChangeSpec) : _root_.Go.OpenSpec := { _root_.Go.OpenSpec.ofChange s with cond := some uptoSmall }

/-- 'laws.FnExactDistanceOf', WHERE WHAT IT READS IS OF BULK AT MOST 1048576: true; the input reads as it did. -/
def fnExactDistanceOfUptoRow : OpenClaim := { program := "ytlnpkijeondidaa", sum := "cef9ccaedae33a2b074a343015c9914058e752b739153380d8fb23040ba56e9c", func := "loop.example/g01012/laws.FnExactDistanceOf", spec := "fnExactDistanceOf", unfollowed := true, recurses := true, apart := false, narrowed := true }
def FnExactDistanceOfUptoSaid : Prop := fnExactDistanceOfUptoRow.holds Try.pinned (OpenSpec.upto fnExactDistanceOfSpec)

/-- 'laws.FnExactShiftOf', WHERE WHAT IT READS IS OF BULK AT MOST 1048576: true; the input reads as it did. -/
def fnExactShiftOfUptoRow : OpenClaim := { program := "ytlnpkijeondidaa", sum := "cef9ccaedae33a2b074a343015c9914058e752b739153380d8fb23040ba56e9c", func := "loop.example/g01012/laws.FnExactShiftOf", spec := "fnExactShiftOf", unfollowed := true, recurses := true, apart := false, narrowed := true }
def FnExactShiftOfUptoSaid : Prop := fnExactShiftOfUptoRow.holds Try.pinned (OpenSpec.upto fnExactShiftOfSpec)

/-- 'laws.FnExactPocketOf', WHERE WHAT IT READS IS OF BULK AT MOST 1048576: true; the input reads as it did. -/
def fnExactPocketOfUptoRow : OpenClaim := { program := "ytlnpkijeondidaa", sum := "cef9ccaedae33a2b074a343015c9914058e752b739153380d8fb23040ba56e9c", func := "loop.example/g01012/laws.FnExactPocketOf", spec := "fnExactPocketOf", unfollowed := true, recurses := true, apart := false, narrowed := true }
def FnExactPocketOfUptoSaid : Prop := fnExactPocketOfUptoRow.holds Try.pinned (OpenSpec.upto fnExactPocketOfSpec)

/-- 'laws.FnExactCompareCards', WHERE WHAT IT READS IS OF BULK AT MOST 1048576: true; the input reads as it did. -/
def fnExactCompareCardsUptoRow : OpenClaim := { program := "ytlnpkijeondidaa", sum := "cef9ccaedae33a2b074a343015c9914058e752b739153380d8fb23040ba56e9c", func := "loop.example/g01012/laws.FnExactCompareCards", spec := "fnExactCompareCards", unfollowed := true, recurses := true, apart := false, narrowed := true }
def FnExactCompareCardsUptoSaid : Prop := fnExactCompareCardsUptoRow.holds Try.pinned (OpenSpec.upto fnExactCompareCardsSpec)

/-- 'laws.FnExactReproduceCard', WHERE WHAT IT READS IS OF BULK AT MOST 1048576: true; the input reads as it did. -/
def fnExactReproduceCardUptoRow : OpenClaim := { program := "ytlnpkijeondidaa", sum := "cef9ccaedae33a2b074a343015c9914058e752b739153380d8fb23040ba56e9c", func := "loop.example/g01012/laws.FnExactReproduceCard", spec := "fnExactReproduceCard", unfollowed := true, recurses := true, apart := false, narrowed := true }
def FnExactReproduceCardUptoSaid : Prop := fnExactReproduceCardUptoRow.holds Try.pinned (OpenSpec.upto fnExactReproduceCardSpec)

/-- 'laws.FnExactNearestCard', WHERE WHAT IT READS IS OF BULK AT MOST 1048576: true; the input reads as it did. -/
def fnExactNearestCardUptoRow : OpenClaim := { program := "ytlnpkijeondidaa", sum := "cef9ccaedae33a2b074a343015c9914058e752b739153380d8fb23040ba56e9c", func := "loop.example/g01012/laws.FnExactNearestCard", spec := "fnExactNearestCard", unfollowed := true, recurses := true, apart := false, narrowed := true }
def FnExactNearestCardUptoSaid : Prop := fnExactNearestCardUptoRow.holds Try.pinned (OpenSpec.upto fnExactNearestCardSpec)

/-- 'laws.FnExactRepairCard', WHERE WHAT IT READS IS OF BULK AT MOST 1048576: true; the input reads as it did. -/
def fnExactRepairCardUptoRow : OpenClaim := { program := "ytlnpkijeondidaa", sum := "cef9ccaedae33a2b074a343015c9914058e752b739153380d8fb23040ba56e9c", func := "loop.example/g01012/laws.FnExactRepairCard", spec := "fnExactRepairCard", unfollowed := true, recurses := true, apart := false, narrowed := true }
def FnExactRepairCardUptoSaid : Prop := fnExactRepairCardUptoRow.holds Try.pinned (OpenSpec.upto fnExactRepairCardSpec)

/-- 'laws.FnExactIsIdlePass', WHERE WHAT IT READS IS OF BULK AT MOST 1048576: true; the input reads as it did. -/
def fnExactIsIdlePassUptoRow : OpenClaim := { program := "ytlnpkijeondidaa", sum := "cef9ccaedae33a2b074a343015c9914058e752b739153380d8fb23040ba56e9c", func := "loop.example/g01012/laws.FnExactIsIdlePass", spec := "fnExactIsIdlePass", unfollowed := true, recurses := true, apart := false, narrowed := true }
def FnExactIsIdlePassUptoSaid : Prop := fnExactIsIdlePassUptoRow.holds Try.pinned (OpenSpec.upto fnExactIsIdlePassSpec)

/-- 'laws.FnExactCompareDecks', WHERE WHAT IT READS IS OF BULK AT MOST 1048576: true; the input reads as it did. -/
def fnExactCompareDecksUptoRow : OpenClaim := { program := "ytlnpkijeondidaa", sum := "cef9ccaedae33a2b074a343015c9914058e752b739153380d8fb23040ba56e9c", func := "loop.example/g01012/laws.FnExactCompareDecks", spec := "fnExactCompareDecks", unfollowed := true, recurses := true, apart := false, narrowed := true }
def FnExactCompareDecksUptoSaid : Prop := fnExactCompareDecksUptoRow.holds Try.pinned (OpenSpec.upto fnExactCompareDecksSpec)

/-- 'laws.FnExactGatherCards', WHERE WHAT IT READS IS OF BULK AT MOST 1048576: true; the input reads as it did. -/
def fnExactGatherCardsUptoRow : OpenClaim := { program := "ytlnpkijeondidaa", sum := "cef9ccaedae33a2b074a343015c9914058e752b739153380d8fb23040ba56e9c", func := "loop.example/g01012/laws.FnExactGatherCards", spec := "fnExactGatherCards", unfollowed := true, recurses := true, apart := false, narrowed := true }
def FnExactGatherCardsUptoSaid : Prop := fnExactGatherCardsUptoRow.holds Try.pinned (OpenSpec.upto fnExactGatherCardsSpec)

/-- 'laws.FnExactAlwaysSorts', WHERE WHAT IT READS IS OF BULK AT MOST 1048576: true; the input reads as it did. -/
def fnExactAlwaysSortsUptoRow : OpenClaim := { program := "ytlnpkijeondidaa", sum := "cef9ccaedae33a2b074a343015c9914058e752b739153380d8fb23040ba56e9c", func := "loop.example/g01012/laws.FnExactAlwaysSorts", spec := "fnExactAlwaysSorts", unfollowed := true, recurses := true, apart := false, narrowed := true }
def FnExactAlwaysSortsUptoSaid : Prop := fnExactAlwaysSortsUptoRow.holds Try.pinned (OpenSpec.upto fnExactAlwaysSortsSpec)

/-- 'laws.FnExactSortPass', WHERE WHAT IT READS IS OF BULK AT MOST 1048576: true; the input reads as it did. -/
def fnExactSortPassUptoRow : OpenClaim := { program := "ytlnpkijeondidaa", sum := "cef9ccaedae33a2b074a343015c9914058e752b739153380d8fb23040ba56e9c", func := "loop.example/g01012/laws.FnExactSortPass", spec := "fnExactSortPass", unfollowed := true, recurses := true, apart := false, narrowed := true }
def FnExactSortPassUptoSaid : Prop := fnExactSortPassUptoRow.holds Try.pinned (OpenSpec.upto fnExactSortPassSpec)

end Rows
end Go.Proofs.Ytlnpkijeondidaa
