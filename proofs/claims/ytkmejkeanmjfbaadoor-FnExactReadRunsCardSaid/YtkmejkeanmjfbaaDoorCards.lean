/-
  DERIVED. GIVEN WITH THE SEED: THE CARDS: each row of YtkmejkeanmjfbaaDoorRows.lean that lists a variable, with what it lists TIED to the program's text (the seventh form; the later family's looks); each row that meets fmt, with fmt's text TOLD by the authors' own Lean function (tested against real Go, not proved from fmt's source: count such statements apart). THE CARD IS WHAT COUNTS. Prove the row's statement (the work); the ties are given (YtkmejkeanmjfbaaDoorTie.lean); close each card by the builder's one call (the guide's Derived/Test/ToyasCard.lean, 'card_holds'). Laid BY PROGRAM, IN A SANDBOX (cutbox-door.mjs). By AI agents, Wed Nov 11 2026. No macro, syntax, notation, axiom, sorry.
-/
import Derived.Test.YtkmejkeanmjfbaaDoorRows
import GoSem.ClaimSeven
namespace Go.Proofs.YtkmejkeanmjfbaaDoor
namespace Rows

/-- THE TIED CARD OF 'laws.FnExactReadRuns'. -/
def fnExactReadRunsCard : Claim7 := { stood := { row := fnExactReadRunsRow, standIns := [], harness := (true, "93e1646f8d25c111dd8e2b260417adfc2b19590b57ad0525aee14986c96084dd"), looks := true }, kinds := [], alts := [], laidByText := true, laidKinds := [.data, .data, .data, .data, .sentinel, .sentinel, .pinned], laidTests := true, laidLooks := .later }
def FnExactReadRunsCardSaid : Prop := Claim7.holds Tryd.pinned (.plain (OpenSpec.ofChange fnExactReadRunsSpec)) fnExactReadRunsCard

/-- THE SECOND FORM's CARD OF 'laws.FnExactReadRuns'. -/
def fnExactReadRunsUptoCard : Claim7 := { stood := { row := fnExactReadRunsUptoRow, standIns := [], harness := (true, "93e1646f8d25c111dd8e2b260417adfc2b19590b57ad0525aee14986c96084dd"), looks := true }, kinds := [], alts := [], laidByText := true, laidKinds := [.data, .data, .data, .data, .sentinel, .sentinel, .pinned], laidTests := true, laidLooks := .later }
def FnExactReadRunsUptoCardSaid : Prop := Claim7.holds Tryd.pinned (.plain (OpenSpec.upto fnExactReadRunsSpec)) fnExactReadRunsUptoCard
end Rows
end Go.Proofs.YtkmejkeanmjfbaaDoor
