/-
  DERIVED. GIVEN WITH THE SEED: THE CARDS: each row of YtmfoaggohlfflaaDoorRows.lean that lists a variable, with what it lists TIED to the program's text (the seventh form; the later family's looks); each row that meets fmt, with fmt's text TOLD by the authors' own Lean function (tested against real Go, not proved from fmt's source: count such statements apart). THE CARD IS WHAT COUNTS. Prove the row's statement (the work); the ties are given (YtmfoaggohlfflaaDoorTie.lean); close each card by the builder's one call (the guide's Derived/Test/ToyasCard.lean, 'card_holds'). Laid BY PROGRAM, IN A SANDBOX (cutbox-door.mjs). By AI agents, Wed Nov 11 2026. No macro, syntax, notation, axiom, sorry.
-/
import Derived.Test.YtmfoaggohlfflaaDoorRows
import GoSem.ClaimSeven
namespace Go.Proofs.YtmfoaggohlfflaaDoor
namespace Rows

/-- THE TIED CARD OF 'laws.FnExactPassText'. -/
def fnExactPassTextCard : Claim7 := { stood := { row := fnExactPassTextRow, standIns := [], harness := (true, "b4916ef76ec5d513bc7bd9e29928054f71db5a2acbf8746de12b79bf068c440a"), looks := true }, kinds := [], alts := [], laidByText := true, laidKinds := [.data, .data, .data], laidTests := true, laidLooks := .later }
def FnExactPassTextCardSaid : Prop := Claim7.holds Tryd.pinned (.plain (OpenSpec.ofChange fnExactPassTextSpec)) fnExactPassTextCard

/-- THE TIED CARD OF 'laws.FnExactReadRuns'. -/
def fnExactReadRunsCard : Claim7 := { stood := { row := fnExactReadRunsRow, standIns := [], harness := (true, "b4916ef76ec5d513bc7bd9e29928054f71db5a2acbf8746de12b79bf068c440a"), looks := true }, kinds := [], alts := [], laidByText := true, laidKinds := [.data, .data, .data, .data, .sentinel, .sentinel, .pinned], laidTests := true, laidLooks := .later }
def FnExactReadRunsCardSaid : Prop := Claim7.holds Tryd.pinned (.plain (OpenSpec.ofChange fnExactReadRunsSpec)) fnExactReadRunsCard

/-- THE SECOND FORM's CARD OF 'laws.FnExactPassText'. -/
def fnExactPassTextUptoCard : Claim7 := { stood := { row := fnExactPassTextUptoRow, standIns := [], harness := (true, "b4916ef76ec5d513bc7bd9e29928054f71db5a2acbf8746de12b79bf068c440a"), looks := true }, kinds := [], alts := [], laidByText := true, laidKinds := [.data, .data, .data], laidTests := true, laidLooks := .later }
def FnExactPassTextUptoCardSaid : Prop := Claim7.holds Tryd.pinned (.plain (OpenSpec.upto fnExactPassTextSpec)) fnExactPassTextUptoCard

/-- THE SECOND FORM's CARD OF 'laws.FnExactReadRuns'. -/
def fnExactReadRunsUptoCard : Claim7 := { stood := { row := fnExactReadRunsUptoRow, standIns := [], harness := (true, "b4916ef76ec5d513bc7bd9e29928054f71db5a2acbf8746de12b79bf068c440a"), looks := true }, kinds := [], alts := [], laidByText := true, laidKinds := [.data, .data, .data, .data, .sentinel, .sentinel, .pinned], laidTests := true, laidLooks := .later }
def FnExactReadRunsUptoCardSaid : Prop := Claim7.holds Tryd.pinned (.plain (OpenSpec.upto fnExactReadRunsSpec)) fnExactReadRunsUptoCard
end Rows
end Go.Proofs.YtmfoaggohlfflaaDoor
