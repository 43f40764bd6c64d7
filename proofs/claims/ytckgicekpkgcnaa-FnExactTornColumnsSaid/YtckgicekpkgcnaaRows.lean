/-
  No cell of these rows narrows 'for every input' (looked for: loops, veiled, ifaces, maps, wideKeys, modest, calm, conditions, laid).
  DERIVED. THE GIVEN ROWS OF THIS SEAT. 12 by the template 'for every input the law returns true; each argument reads behind the call as it read before'; 0 by the template 'total and deterministic' (their statements: YtckgicekpkgcnaaTotals.lean).
  GIVEN WITH THE SEED: the statements are not yours to turn. If you find one false, say at which input.
  Laid BY PROGRAM, IN A SANDBOX (cutbox-rows.mjs): the forced cells as the released guide's own fill.sh prints them over the translation dd00fb328de28eee… (all of the seat's roots in one cut). By AI agents, Wed Nov 11 2026. No macro, syntax, notation, axiom, sorry.
-/
import Derived.Test.YtckgicekpkgcnaaChecked
import GoSem.Claim
import GoSem.ClaimJoined
import GoSem.ClaimMapViews
import Derived.JoinedTies
import Derived.KernelRfl
namespace Go.Proofs.Ytckgicekpkgcnaa
/- THE CELL 'sum', in the pinned program and in every row, IS THE sha256 OF THE DUMP (.gsa) THAT YtckgicekpkgcnaaProg.lean LOADS. Nothing in Lean hashes anything: it is a label: what it is worth is what the hold of that sum in a sandbox is worth. -/
noncomputable def Try.pinned : Pinned := { name := "ytckgicekpkgcnaa", sum := "dd00fb328de28eee0bc9fc7be8cfc1999a2ba24d7b7d0fd039a279147128a995", checked := Try.checked }
namespace Rows
def none {H : Type} : Left H := { results := [], args := [] }

/-- 'laws.FnExactFullPlan': WHATEVER THE INPUT: true; the input reads as it did. -/
def fnExactFullPlanSpec : ChangeSpec := { name := "fnExactFullPlan", fn := fun _ => fun
  | [d] => { results := [.lit (.bool true)], args := [d] }
  | _ => none }
def fnExactFullPlanRow : OpenClaim := { program := "ytckgicekpkgcnaa", sum := "dd00fb328de28eee0bc9fc7be8cfc1999a2ba24d7b7d0fd039a279147128a995", func := "loop.example/g01012/laws.FnExactFullPlan", spec := "fnExactFullPlan", apart := false }
def FnExactFullPlanSaid : Prop := fnExactFullPlanRow.holds Try.pinned (OpenSpec.ofChange fnExactFullPlanSpec)

/-- ITS FALSE NEIGHBOUR: 'it returns false'. Refute it at one input. -/
def fnExactFullPlanWrong : ChangeSpec := { name := "fnExactFullPlan", fn := fun _ => fun
  | [d] => { results := [.lit (.bool false)], args := [d] }
  | _ => none }
def FnExactFullPlanWrongFalsely : Prop := fnExactFullPlanRow.holds Try.pinned (OpenSpec.ofChange fnExactFullPlanWrong)

/-- 'laws.FnExactHandledCards': WHATEVER THE INPUT: true; the input reads as it did. -/
def fnExactHandledCardsSpec : ChangeSpec := { name := "fnExactHandledCards", fn := fun _ => fun
  | [d1, d2] => { results := [.lit (.bool true)], args := [d1, d2] }
  | _ => none }
def fnExactHandledCardsRow : OpenClaim := { program := "ytckgicekpkgcnaa", sum := "dd00fb328de28eee0bc9fc7be8cfc1999a2ba24d7b7d0fd039a279147128a995", func := "loop.example/g01012/laws.FnExactHandledCards", spec := "fnExactHandledCards", unfollowed := true, recurses := true, apart := false }
def FnExactHandledCardsSaid : Prop := fnExactHandledCardsRow.holds Try.pinned (OpenSpec.ofChange fnExactHandledCardsSpec)

/-- ITS FALSE NEIGHBOUR: 'it returns false'. Refute it at one input. -/
def fnExactHandledCardsWrong : ChangeSpec := { name := "fnExactHandledCards", fn := fun _ => fun
  | [d1, d2] => { results := [.lit (.bool false)], args := [d1, d2] }
  | _ => none }
def FnExactHandledCardsWrongFalsely : Prop := fnExactHandledCardsRow.holds Try.pinned (OpenSpec.ofChange fnExactHandledCardsWrong)

/-- 'laws.FnExactValidCopies': WHATEVER THE INPUT: true; the input reads as it did. -/
def fnExactValidCopiesSpec : ChangeSpec := { name := "fnExactValidCopies", fn := fun _ => fun
  | [d1, d2, d3] => { results := [.lit (.bool true)], args := [d1, d2, d3] }
  | _ => none }
def fnExactValidCopiesRow : OpenClaim := { program := "ytckgicekpkgcnaa", sum := "dd00fb328de28eee0bc9fc7be8cfc1999a2ba24d7b7d0fd039a279147128a995", func := "loop.example/g01012/laws.FnExactValidCopies", spec := "fnExactValidCopies", unfollowed := true, recurses := true, apart := false }
def FnExactValidCopiesSaid : Prop := fnExactValidCopiesRow.holds Try.pinned (OpenSpec.ofChange fnExactValidCopiesSpec)

/-- ITS FALSE NEIGHBOUR: 'it returns false'. Refute it at one input. -/
def fnExactValidCopiesWrong : ChangeSpec := { name := "fnExactValidCopies", fn := fun _ => fun
  | [d1, d2, d3] => { results := [.lit (.bool false)], args := [d1, d2, d3] }
  | _ => none }
def FnExactValidCopiesWrongFalsely : Prop := fnExactValidCopiesRow.holds Try.pinned (OpenSpec.ofChange fnExactValidCopiesWrong)

/-- 'laws.FnExactDigitPlan': WHATEVER THE INPUT: true; the input reads as it did. -/
def fnExactDigitPlanSpec : ChangeSpec := { name := "fnExactDigitPlan", fn := fun _ => fun
  | [d] => { results := [.lit (.bool true)], args := [d] }
  | _ => none }
def fnExactDigitPlanRow : OpenClaim := { program := "ytckgicekpkgcnaa", sum := "dd00fb328de28eee0bc9fc7be8cfc1999a2ba24d7b7d0fd039a279147128a995", func := "loop.example/g01012/laws.FnExactDigitPlan", spec := "fnExactDigitPlan", unfollowed := true, recurses := true, apart := false }
def FnExactDigitPlanSaid : Prop := fnExactDigitPlanRow.holds Try.pinned (OpenSpec.ofChange fnExactDigitPlanSpec)

/-- ITS FALSE NEIGHBOUR: 'it returns false'. Refute it at one input. -/
def fnExactDigitPlanWrong : ChangeSpec := { name := "fnExactDigitPlan", fn := fun _ => fun
  | [d] => { results := [.lit (.bool false)], args := [d] }
  | _ => none }
def FnExactDigitPlanWrongFalsely : Prop := fnExactDigitPlanRow.holds Try.pinned (OpenSpec.ofChange fnExactDigitPlanWrong)

/-- 'laws.FnExactJoinCopies': WHATEVER THE INPUT: true; the input reads as it did. -/
def fnExactJoinCopiesSpec : ChangeSpec := { name := "fnExactJoinCopies", fn := fun _ => fun
  | [d1, d2] => { results := [.lit (.bool true)], args := [d1, d2] }
  | _ => none }
def fnExactJoinCopiesRow : OpenClaim := { program := "ytckgicekpkgcnaa", sum := "dd00fb328de28eee0bc9fc7be8cfc1999a2ba24d7b7d0fd039a279147128a995", func := "loop.example/g01012/laws.FnExactJoinCopies", spec := "fnExactJoinCopies", apart := false }
def FnExactJoinCopiesSaid : Prop := fnExactJoinCopiesRow.holds Try.pinned (OpenSpec.ofChange fnExactJoinCopiesSpec)

/-- ITS FALSE NEIGHBOUR: 'it returns false'. Refute it at one input. -/
def fnExactJoinCopiesWrong : ChangeSpec := { name := "fnExactJoinCopies", fn := fun _ => fun
  | [d1, d2] => { results := [.lit (.bool false)], args := [d1, d2] }
  | _ => none }
def FnExactJoinCopiesWrongFalsely : Prop := fnExactJoinCopiesRow.holds Try.pinned (OpenSpec.ofChange fnExactJoinCopiesWrong)

/-- 'laws.FnExactLacedColumns': WHATEVER THE INPUT: true; the input reads as it did. -/
def fnExactLacedColumnsSpec : ChangeSpec := { name := "fnExactLacedColumns", fn := fun _ => fun
  | [d] => { results := [.lit (.bool true)], args := [d] }
  | _ => none }
def fnExactLacedColumnsRow : OpenClaim := { program := "ytckgicekpkgcnaa", sum := "dd00fb328de28eee0bc9fc7be8cfc1999a2ba24d7b7d0fd039a279147128a995", func := "loop.example/g01012/laws.FnExactLacedColumns", spec := "fnExactLacedColumns", unfollowed := true, recurses := true, apart := false }
def FnExactLacedColumnsSaid : Prop := fnExactLacedColumnsRow.holds Try.pinned (OpenSpec.ofChange fnExactLacedColumnsSpec)

/-- ITS FALSE NEIGHBOUR: 'it returns false'. Refute it at one input. -/
def fnExactLacedColumnsWrong : ChangeSpec := { name := "fnExactLacedColumns", fn := fun _ => fun
  | [d] => { results := [.lit (.bool false)], args := [d] }
  | _ => none }
def FnExactLacedColumnsWrongFalsely : Prop := fnExactLacedColumnsRow.holds Try.pinned (OpenSpec.ofChange fnExactLacedColumnsWrong)

/-- 'laws.FnExactLaceColumn': WHATEVER THE INPUT: true; the input reads as it did. -/
def fnExactLaceColumnSpec : ChangeSpec := { name := "fnExactLaceColumn", fn := fun _ => fun
  | [d1, d2] => { results := [.lit (.bool true)], args := [d1, d2] }
  | _ => none }
def fnExactLaceColumnRow : OpenClaim := { program := "ytckgicekpkgcnaa", sum := "dd00fb328de28eee0bc9fc7be8cfc1999a2ba24d7b7d0fd039a279147128a995", func := "loop.example/g01012/laws.FnExactLaceColumn", spec := "fnExactLaceColumn", unfollowed := true, recurses := true, apart := false }
def FnExactLaceColumnSaid : Prop := fnExactLaceColumnRow.holds Try.pinned (OpenSpec.ofChange fnExactLaceColumnSpec)

/-- ITS FALSE NEIGHBOUR: 'it returns false'. Refute it at one input. -/
def fnExactLaceColumnWrong : ChangeSpec := { name := "fnExactLaceColumn", fn := fun _ => fun
  | [d1, d2] => { results := [.lit (.bool false)], args := [d1, d2] }
  | _ => none }
def FnExactLaceColumnWrongFalsely : Prop := fnExactLaceColumnRow.holds Try.pinned (OpenSpec.ofChange fnExactLaceColumnWrong)

/-- 'laws.FnExactShiftCard': WHATEVER THE INPUT: true; the input reads as it did. -/
def fnExactShiftCardSpec : ChangeSpec := { name := "fnExactShiftCard", fn := fun _ => fun
  | [d1, d2] => { results := [.lit (.bool true)], args := [d1, d2] }
  | _ => none }
def fnExactShiftCardRow : OpenClaim := { program := "ytckgicekpkgcnaa", sum := "dd00fb328de28eee0bc9fc7be8cfc1999a2ba24d7b7d0fd039a279147128a995", func := "loop.example/g01012/laws.FnExactShiftCard", spec := "fnExactShiftCard", unfollowed := true, recurses := true, apart := false }
def FnExactShiftCardSaid : Prop := fnExactShiftCardRow.holds Try.pinned (OpenSpec.ofChange fnExactShiftCardSpec)

/-- ITS FALSE NEIGHBOUR: 'it returns false'. Refute it at one input. -/
def fnExactShiftCardWrong : ChangeSpec := { name := "fnExactShiftCard", fn := fun _ => fun
  | [d1, d2] => { results := [.lit (.bool false)], args := [d1, d2] }
  | _ => none }
def FnExactShiftCardWrongFalsely : Prop := fnExactShiftCardRow.holds Try.pinned (OpenSpec.ofChange fnExactShiftCardWrong)

/-- 'laws.FnExactAddedHoles': WHATEVER THE INPUT: true; the input reads as it did. -/
def fnExactAddedHolesSpec : ChangeSpec := { name := "fnExactAddedHoles", fn := fun _ => fun
  | [d1, d2] => { results := [.lit (.bool true)], args := [d1, d2] }
  | _ => none }
def fnExactAddedHolesRow : OpenClaim := { program := "ytckgicekpkgcnaa", sum := "dd00fb328de28eee0bc9fc7be8cfc1999a2ba24d7b7d0fd039a279147128a995", func := "loop.example/g01012/laws.FnExactAddedHoles", spec := "fnExactAddedHoles", unfollowed := true, recurses := true, apart := false }
def FnExactAddedHolesSaid : Prop := fnExactAddedHolesRow.holds Try.pinned (OpenSpec.ofChange fnExactAddedHolesSpec)

/-- ITS FALSE NEIGHBOUR: 'it returns false'. Refute it at one input. -/
def fnExactAddedHolesWrong : ChangeSpec := { name := "fnExactAddedHoles", fn := fun _ => fun
  | [d1, d2] => { results := [.lit (.bool false)], args := [d1, d2] }
  | _ => none }
def FnExactAddedHolesWrongFalsely : Prop := fnExactAddedHolesRow.holds Try.pinned (OpenSpec.ofChange fnExactAddedHolesWrong)

/-- 'laws.FnExactLostHoles': WHATEVER THE INPUT: true; the input reads as it did. -/
def fnExactLostHolesSpec : ChangeSpec := { name := "fnExactLostHoles", fn := fun _ => fun
  | [d1, d2] => { results := [.lit (.bool true)], args := [d1, d2] }
  | _ => none }
def fnExactLostHolesRow : OpenClaim := { program := "ytckgicekpkgcnaa", sum := "dd00fb328de28eee0bc9fc7be8cfc1999a2ba24d7b7d0fd039a279147128a995", func := "loop.example/g01012/laws.FnExactLostHoles", spec := "fnExactLostHoles", unfollowed := true, recurses := true, apart := false }
def FnExactLostHolesSaid : Prop := fnExactLostHolesRow.holds Try.pinned (OpenSpec.ofChange fnExactLostHolesSpec)

/-- ITS FALSE NEIGHBOUR: 'it returns false'. Refute it at one input. -/
def fnExactLostHolesWrong : ChangeSpec := { name := "fnExactLostHoles", fn := fun _ => fun
  | [d1, d2] => { results := [.lit (.bool false)], args := [d1, d2] }
  | _ => none }
def FnExactLostHolesWrongFalsely : Prop := fnExactLostHolesRow.holds Try.pinned (OpenSpec.ofChange fnExactLostHolesWrong)

/-- 'laws.FnExactRepairColumn': WHATEVER THE INPUT: true; the input reads as it did. -/
def fnExactRepairColumnSpec : ChangeSpec := { name := "fnExactRepairColumn", fn := fun _ => fun
  | [d] => { results := [.lit (.bool true)], args := [d] }
  | _ => none }
def fnExactRepairColumnRow : OpenClaim := { program := "ytckgicekpkgcnaa", sum := "dd00fb328de28eee0bc9fc7be8cfc1999a2ba24d7b7d0fd039a279147128a995", func := "loop.example/g01012/laws.FnExactRepairColumn", spec := "fnExactRepairColumn", apart := false }
def FnExactRepairColumnSaid : Prop := fnExactRepairColumnRow.holds Try.pinned (OpenSpec.ofChange fnExactRepairColumnSpec)

/-- ITS FALSE NEIGHBOUR: 'it returns false'. Refute it at one input. -/
def fnExactRepairColumnWrong : ChangeSpec := { name := "fnExactRepairColumn", fn := fun _ => fun
  | [d] => { results := [.lit (.bool false)], args := [d] }
  | _ => none }
def FnExactRepairColumnWrongFalsely : Prop := fnExactRepairColumnRow.holds Try.pinned (OpenSpec.ofChange fnExactRepairColumnWrong)

/-- 'laws.FnExactTornColumns': WHATEVER THE INPUT: true; the input reads as it did. -/
def fnExactTornColumnsSpec : ChangeSpec := { name := "fnExactTornColumns", fn := fun _ => fun
  | [d1, d2] => { results := [.lit (.bool true)], args := [d1, d2] }
  | _ => none }
def fnExactTornColumnsRow : OpenClaim := { program := "ytckgicekpkgcnaa", sum := "dd00fb328de28eee0bc9fc7be8cfc1999a2ba24d7b7d0fd039a279147128a995", func := "loop.example/g01012/laws.FnExactTornColumns", spec := "fnExactTornColumns", unfollowed := true, recurses := true, apart := false }
def FnExactTornColumnsSaid : Prop := fnExactTornColumnsRow.holds Try.pinned (OpenSpec.ofChange fnExactTornColumnsSpec)

/-- ITS FALSE NEIGHBOUR: 'it returns false'. Refute it at one input. -/
def fnExactTornColumnsWrong : ChangeSpec := { name := "fnExactTornColumns", fn := fun _ => fun
  | [d1, d2] => { results := [.lit (.bool false)], args := [d1, d2] }
  | _ => none }
def FnExactTornColumnsWrongFalsely : Prop := fnExactTornColumnsRow.holds Try.pinned (OpenSpec.ofChange fnExactTornColumnsWrong)

/- THE SECOND FORM. 'bulk': how many values and letters a reading holds, each counted each time it is reached (what is shared counts as often as it is met; a slice's spare places count too). A statement '..UptoSaid' is the law's where the arguments, and the package variables that the reading takes, are together of bulk at most 1048576: NARROWER than '..Said'. Prove '..Said' where nothing that the law and all that it calls make is longer than what came in: it says more and counts as full. Else prove '..UptoSaid'. A law counts once. -/
mutual
def uptoBulk {H : Type} : DataW H → Nat
  | .lit (.string bytes) => bytes.length + 1
  | .lit _ => 1
  | .nil => 1
  | .ptr d => uptoBulk d + 1
  | .slice elems spare => uptoBulkAll elems + uptoBulkAll spare + 1
  | .agg parts => uptoBulkAll parts + 1
  | .iface _ d => uptoBulk d + 1
  | .map entries => uptoBulkEntries entries + 1
  | .held _ => 1
def uptoBulkAll {H : Type} : List (DataW H) → Nat
  | [] => 0
  | d :: r => uptoBulk d + uptoBulkAll r
def uptoBulkEntries {H : Type} : List (Lit × DataW H) → Nat
  | [] => 0
  | x :: r => uptoBulkEntry x + uptoBulkEntries r
def uptoBulkEntry {H : Type} : Lit × DataW H → Nat
  | (.string bytes, d) => bytes.length + uptoBulk d + 1
  | (_, d) => uptoBulk d + 1
 end
def uptoSmall : (H : Type) → List (DataW H) → Bool := fun _ ds => decide (uptoBulkAll ds ≤ 1048576)
def OpenSpec.upto (s : _root_.Go.ChangeSpec) : _root_.Go.OpenSpec := { _root_.Go.OpenSpec.ofChange s with cond := some uptoSmall }

/-- 'laws.FnExactFullPlan', WHERE WHAT IT READS IS OF BULK AT MOST 1048576: true; the input reads as it did. -/
def fnExactFullPlanUptoRow : OpenClaim := { program := "ytckgicekpkgcnaa", sum := "dd00fb328de28eee0bc9fc7be8cfc1999a2ba24d7b7d0fd039a279147128a995", func := "loop.example/g01012/laws.FnExactFullPlan", spec := "fnExactFullPlan", apart := false, narrowed := true }
def FnExactFullPlanUptoSaid : Prop := fnExactFullPlanUptoRow.holds Try.pinned (OpenSpec.upto fnExactFullPlanSpec)

/-- 'laws.FnExactHandledCards', WHERE WHAT IT READS IS OF BULK AT MOST 1048576: true; the input reads as it did. -/
def fnExactHandledCardsUptoRow : OpenClaim := { program := "ytckgicekpkgcnaa", sum := "dd00fb328de28eee0bc9fc7be8cfc1999a2ba24d7b7d0fd039a279147128a995", func := "loop.example/g01012/laws.FnExactHandledCards", spec := "fnExactHandledCards", unfollowed := true, recurses := true, apart := false, narrowed := true }
def FnExactHandledCardsUptoSaid : Prop := fnExactHandledCardsUptoRow.holds Try.pinned (OpenSpec.upto fnExactHandledCardsSpec)

/-- 'laws.FnExactValidCopies', WHERE WHAT IT READS IS OF BULK AT MOST 1048576: true; the input reads as it did. -/
def fnExactValidCopiesUptoRow : OpenClaim := { program := "ytckgicekpkgcnaa", sum := "dd00fb328de28eee0bc9fc7be8cfc1999a2ba24d7b7d0fd039a279147128a995", func := "loop.example/g01012/laws.FnExactValidCopies", spec := "fnExactValidCopies", unfollowed := true, recurses := true, apart := false, narrowed := true }
def FnExactValidCopiesUptoSaid : Prop := fnExactValidCopiesUptoRow.holds Try.pinned (OpenSpec.upto fnExactValidCopiesSpec)

/-- 'laws.FnExactDigitPlan', WHERE WHAT IT READS IS OF BULK AT MOST 1048576: true; the input reads as it did. -/
def fnExactDigitPlanUptoRow : OpenClaim := { program := "ytckgicekpkgcnaa", sum := "dd00fb328de28eee0bc9fc7be8cfc1999a2ba24d7b7d0fd039a279147128a995", func := "loop.example/g01012/laws.FnExactDigitPlan", spec := "fnExactDigitPlan", unfollowed := true, recurses := true, apart := false, narrowed := true }
def FnExactDigitPlanUptoSaid : Prop := fnExactDigitPlanUptoRow.holds Try.pinned (OpenSpec.upto fnExactDigitPlanSpec)

/-- 'laws.FnExactJoinCopies', WHERE WHAT IT READS IS OF BULK AT MOST 1048576: true; the input reads as it did. -/
def fnExactJoinCopiesUptoRow : OpenClaim := { program := "ytckgicekpkgcnaa", sum := "dd00fb328de28eee0bc9fc7be8cfc1999a2ba24d7b7d0fd039a279147128a995", func := "loop.example/g01012/laws.FnExactJoinCopies", spec := "fnExactJoinCopies", apart := false, narrowed := true }
def FnExactJoinCopiesUptoSaid : Prop := fnExactJoinCopiesUptoRow.holds Try.pinned (OpenSpec.upto fnExactJoinCopiesSpec)

/-- 'laws.FnExactLacedColumns', WHERE WHAT IT READS IS OF BULK AT MOST 1048576: true; the input reads as it did. -/
def fnExactLacedColumnsUptoRow : OpenClaim := { program := "ytckgicekpkgcnaa", sum := "dd00fb328de28eee0bc9fc7be8cfc1999a2ba24d7b7d0fd039a279147128a995", func := "loop.example/g01012/laws.FnExactLacedColumns", spec := "fnExactLacedColumns", unfollowed := true, recurses := true, apart := false, narrowed := true }
def FnExactLacedColumnsUptoSaid : Prop := fnExactLacedColumnsUptoRow.holds Try.pinned (OpenSpec.upto fnExactLacedColumnsSpec)

/-- 'laws.FnExactLaceColumn', WHERE WHAT IT READS IS OF BULK AT MOST 1048576: true; the input reads as it did. -/
def fnExactLaceColumnUptoRow : OpenClaim := { program := "ytckgicekpkgcnaa", sum := "dd00fb328de28eee0bc9fc7be8cfc1999a2ba24d7b7d0fd039a279147128a995", func := "loop.example/g01012/laws.FnExactLaceColumn", spec := "fnExactLaceColumn", unfollowed := true, recurses := true, apart := false, narrowed := true }
def FnExactLaceColumnUptoSaid : Prop := fnExactLaceColumnUptoRow.holds Try.pinned (OpenSpec.upto fnExactLaceColumnSpec)

/-- 'laws.FnExactShiftCard', WHERE WHAT IT READS IS OF BULK AT MOST 1048576: true; the input reads as it did. -/
def fnExactShiftCardUptoRow : OpenClaim := { program := "ytckgicekpkgcnaa", sum := "dd00fb328de28eee0bc9fc7be8cfc1999a2ba24d7b7d0fd039a279147128a995", func := "loop.example/g01012/laws.FnExactShiftCard", spec := "fnExactShiftCard", unfollowed := true, recurses := true, apart := false, narrowed := true }
def FnExactShiftCardUptoSaid : Prop := fnExactShiftCardUptoRow.holds Try.pinned (OpenSpec.upto fnExactShiftCardSpec)

/-- 'laws.FnExactAddedHoles', WHERE WHAT IT READS IS OF BULK AT MOST 1048576: true; the input reads as it did. -/
def fnExactAddedHolesUptoRow : OpenClaim := { program := "ytckgicekpkgcnaa", sum := "dd00fb328de28eee0bc9fc7be8cfc1999a2ba24d7b7d0fd039a279147128a995", func := "loop.example/g01012/laws.FnExactAddedHoles", spec := "fnExactAddedHoles", unfollowed := true, recurses := true, apart := false, narrowed := true }
def FnExactAddedHolesUptoSaid : Prop := fnExactAddedHolesUptoRow.holds Try.pinned (OpenSpec.upto fnExactAddedHolesSpec)

/-- 'laws.FnExactLostHoles', WHERE WHAT IT READS IS OF BULK AT MOST 1048576: true; the input reads as it did. -/
def fnExactLostHolesUptoRow : OpenClaim := { program := "ytckgicekpkgcnaa", sum := "dd00fb328de28eee0bc9fc7be8cfc1999a2ba24d7b7d0fd039a279147128a995", func := "loop.example/g01012/laws.FnExactLostHoles", spec := "fnExactLostHoles", unfollowed := true, recurses := true, apart := false, narrowed := true }
def FnExactLostHolesUptoSaid : Prop := fnExactLostHolesUptoRow.holds Try.pinned (OpenSpec.upto fnExactLostHolesSpec)

/-- 'laws.FnExactRepairColumn', WHERE WHAT IT READS IS OF BULK AT MOST 1048576: true; the input reads as it did. -/
def fnExactRepairColumnUptoRow : OpenClaim := { program := "ytckgicekpkgcnaa", sum := "dd00fb328de28eee0bc9fc7be8cfc1999a2ba24d7b7d0fd039a279147128a995", func := "loop.example/g01012/laws.FnExactRepairColumn", spec := "fnExactRepairColumn", apart := false, narrowed := true }
def FnExactRepairColumnUptoSaid : Prop := fnExactRepairColumnUptoRow.holds Try.pinned (OpenSpec.upto fnExactRepairColumnSpec)

/-- 'laws.FnExactTornColumns', WHERE WHAT IT READS IS OF BULK AT MOST 1048576: true; the input reads as it did. -/
def fnExactTornColumnsUptoRow : OpenClaim := { program := "ytckgicekpkgcnaa", sum := "dd00fb328de28eee0bc9fc7be8cfc1999a2ba24d7b7d0fd039a279147128a995", func := "loop.example/g01012/laws.FnExactTornColumns", spec := "fnExactTornColumns", unfollowed := true, recurses := true, apart := false, narrowed := true }
def FnExactTornColumnsUptoSaid : Prop := fnExactTornColumnsUptoRow.holds Try.pinned (OpenSpec.upto fnExactTornColumnsSpec)

end Rows
end Go.Proofs.Ytckgicekpkgcnaa
