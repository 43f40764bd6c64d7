/-
  DERIVED. GIVEN WITH THE SEED: THE CARDS: each row of YtkmejkeanmjfbaaGreatDoorRows.lean that lists a variable, with what it lists TIED to the program's text (the seventh form; the later family's looks); each row that meets fmt, with fmt's text TOLD by the authors' own Lean function (tested against real Go, not proved from fmt's source: count such statements apart). THE CARD IS WHAT COUNTS. Prove the row's statement (the work); the ties are given (YtkmejkeanmjfbaaGreatDoorTie.lean); close each card by the builder's one call (the guide's Derived/Test/ToyasCard.lean, 'card_holds'). Laid BY PROGRAM, IN A SANDBOX (cutbox-door.mjs). By AI agents, Wed Nov 11 2026. No macro, syntax, notation, axiom, sorry.
-/
import Derived.Test.YtkmejkeanmjfbaaGreatDoorRows
import GoSem.ClaimSeven
namespace Go.Proofs.YtkmejkeanmjfbaaGreatDoor
namespace Rows

/-- THE TIED CARD OF 'laws.FnKeyedDecks'. -/
def fnKeyedDecksCard : Claim7 := { stood := { row := fnKeyedDecksRow, standIns := [], harness := (true, "77fb94e3a88e9ca815b57940f8b9e2578b13ffa2d580a2544575bffd87fb24b2"), looks := true }, kinds := [], alts := [], laidByText := true, laidKinds := [.data, .data, .data, .data, .sentinel, .sentinel, .pinned], laidTests := true, laidLooks := .later }
def FnKeyedDecksCardSaid : Prop := Claim7.holds Tryz.pinned (.plain (OpenSpec.ofChange fnKeyedDecksSpec)) fnKeyedDecksCard

/-- THE SECOND FORM's CARD OF 'laws.FnKeyedDecks'. -/
def fnKeyedDecksUptoCard : Claim7 := { stood := { row := fnKeyedDecksUptoRow, standIns := [], harness := (true, "77fb94e3a88e9ca815b57940f8b9e2578b13ffa2d580a2544575bffd87fb24b2"), looks := true }, kinds := [], alts := [], laidByText := true, laidKinds := [.data, .data, .data, .data, .sentinel, .sentinel, .pinned], laidTests := true, laidLooks := .later }
def FnKeyedDecksUptoCardSaid : Prop := Claim7.holds Tryz.pinned (.plain (OpenSpec.upto fnKeyedDecksSpec)) fnKeyedDecksUptoCard
end Rows
end Go.Proofs.YtkmejkeanmjfbaaGreatDoor
