/-
  DERIVED. GIVEN WITH THE SEED: THE CARDS: each row of YtmfoaggohlfflaaGreatDoorRows.lean that lists a variable, with what it lists TIED to the program's text (the seventh form; the later family's looks); each row that meets fmt, with fmt's text TOLD by the authors' own Lean function (tested against real Go, not proved from fmt's source: count such statements apart). THE CARD IS WHAT COUNTS. Prove the row's statement (the work); the ties are given (YtmfoaggohlfflaaGreatDoorTie.lean); close each card by the builder's one call (the guide's Derived/Test/ToyasCard.lean, 'card_holds'). Laid BY PROGRAM, IN A SANDBOX (cutbox-door.mjs). By AI agents, Wed Nov 11 2026. No macro, syntax, notation, axiom, sorry.
-/
import Derived.Test.YtmfoaggohlfflaaGreatDoorRows
import GoSem.ClaimSeven
namespace Go.Proofs.YtmfoaggohlfflaaGreatDoor
namespace Rows

/-- THE TIED CARD OF 'laws.FnPlans'. -/
def fnPlansCard : Claim7 := { stood := { row := fnPlansRow, standIns := [], harness := (true, "dc52e782ee1b770f07fc002ce4f52a1b1b112da1bfecf873a68baa8807722078"), looks := true }, kinds := [], alts := [], laidByText := true, laidKinds := [.data, .data, .data], laidTests := true, laidLooks := .later }
def FnPlansCardSaid : Prop := Claim7.holds Tryz.pinned (.plain (OpenSpec.ofChange fnPlansSpec)) fnPlansCard

/-- THE TIED CARD OF 'laws.FnKeyedDecks'. -/
def fnKeyedDecksCard : Claim7 := { stood := { row := fnKeyedDecksRow, standIns := [], harness := (true, "dc52e782ee1b770f07fc002ce4f52a1b1b112da1bfecf873a68baa8807722078"), looks := true }, kinds := [], alts := [], laidByText := true, laidKinds := [.data, .data, .data, .data, .sentinel, .sentinel, .pinned], laidTests := true, laidLooks := .later }
def FnKeyedDecksCardSaid : Prop := Claim7.holds Tryz.pinned (.plain (OpenSpec.ofChange fnKeyedDecksSpec)) fnKeyedDecksCard

/-- THE SECOND FORM's CARD OF 'laws.FnPlans'. -/
def fnPlansUptoCard : Claim7 := { stood := { row := fnPlansUptoRow, standIns := [], harness := (true, "dc52e782ee1b770f07fc002ce4f52a1b1b112da1bfecf873a68baa8807722078"), looks := true }, kinds := [], alts := [], laidByText := true, laidKinds := [.data, .data, .data], laidTests := true, laidLooks := .later }
def FnPlansUptoCardSaid : Prop := Claim7.holds Tryz.pinned (.plain (OpenSpec.upto fnPlansSpec)) fnPlansUptoCard

/-- THE SECOND FORM's CARD OF 'laws.FnKeyedDecks'. -/
def fnKeyedDecksUptoCard : Claim7 := { stood := { row := fnKeyedDecksUptoRow, standIns := [], harness := (true, "dc52e782ee1b770f07fc002ce4f52a1b1b112da1bfecf873a68baa8807722078"), looks := true }, kinds := [], alts := [], laidByText := true, laidKinds := [.data, .data, .data, .data, .sentinel, .sentinel, .pinned], laidTests := true, laidLooks := .later }
def FnKeyedDecksUptoCardSaid : Prop := Claim7.holds Tryz.pinned (.plain (OpenSpec.upto fnKeyedDecksSpec)) fnKeyedDecksUptoCard
end Rows
end Go.Proofs.YtmfoaggohlfflaaGreatDoor
