/-
  DERIVED. GIVEN WITH THE SEED: THE CARDS: each row of YtbellobjajnlkaaDoorRows.lean that lists a variable, with what it lists TIED to the program's text (the seventh form; the later family's looks); each row that meets fmt, with fmt's text TOLD by the authors' own Lean function (tested against real Go, not proved from fmt's source: count such statements apart). THE CARD IS WHAT COUNTS. Prove the row's statement (the work); the ties are given (YtbellobjajnlkaaDoorTie.lean); close each card by the builder's one call (the guide's Derived/Test/ToyasCard.lean, 'card_holds'). Laid BY PROGRAM, IN A SANDBOX (cutbox-door.mjs). By AI agents, Wed Nov 11 2026. No macro, syntax, notation, axiom, sorry.
-/
import Derived.Test.YtbellobjajnlkaaDoorRows
import GoSem.ClaimSeven
namespace Go.Proofs.YtbellobjajnlkaaDoor
namespace Rows

/-- THE TIED CARD OF 'pipelinelaw24.ConcurrencyValid'. -/
def concurrencyValidCard : Claim7 := { stood := { row := concurrencyValidRow, standIns := [], harness := (true, "9995d2e00ccad974306681af510a8a98afa1bc79c8b7d3dea99beba46a37e19f"), looks := false }, kinds := [], alts := [], laidByText := true, laidKinds := [.data, .pinned], laidTests := true, laidLooks := .later }
def ConcurrencyValidCardSaid : Prop := Claim7.holds Tryd.pinned (.plain (OpenSpec.ofChange concurrencyValidSpec)) concurrencyValidCard

/-- THE TIED CARD OF 'pipelinelaw24.ConcurrencyEnters'. -/
def concurrencyEntersCard : Claim7 := { stood := { row := concurrencyEntersRow, standIns := [], harness := (true, "9995d2e00ccad974306681af510a8a98afa1bc79c8b7d3dea99beba46a37e19f"), looks := false }, kinds := [], alts := [], laidByText := true, laidKinds := [.data, .pinned], laidTests := true, laidLooks := .later }
def ConcurrencyEntersCardSaid : Prop := Claim7.holds Tryd.pinned (.plain (OpenSpec.ofChange concurrencyEntersSpec)) concurrencyEntersCard

/-- THE TIED CARD OF 'pipelinelaw24.ConcurrencyPolicies'. -/
def concurrencyPoliciesCard : Claim7 := { stood := { row := concurrencyPoliciesRow, standIns := [], harness := (true, "9995d2e00ccad974306681af510a8a98afa1bc79c8b7d3dea99beba46a37e19f"), looks := false }, kinds := [], alts := [], laidByText := true, laidKinds := [.data, .pinned], laidTests := true, laidLooks := .later }
def ConcurrencyPoliciesCardSaid : Prop := Claim7.holds Tryd.pinned (.plain (OpenSpec.ofChange concurrencyPoliciesSpec)) concurrencyPoliciesCard

/-- THE TIED CARD OF 'pipelinelaw24.ConcurrencyMoves'. -/
def concurrencyMovesCard : Claim7 := { stood := { row := concurrencyMovesRow, standIns := [], harness := (true, "9995d2e00ccad974306681af510a8a98afa1bc79c8b7d3dea99beba46a37e19f"), looks := false }, kinds := [], alts := [], laidByText := true, laidKinds := [.data, .pinned], laidTests := true, laidLooks := .later }
def ConcurrencyMovesCardSaid : Prop := Claim7.holds Tryd.pinned (.plain (OpenSpec.ofChange concurrencyMovesSpec)) concurrencyMovesCard

/-- THE TIED CARD OF 'pipelinelaw24.ConcurrencyPlays'. -/
def concurrencyPlaysCard : Claim7 := { stood := { row := concurrencyPlaysRow, standIns := [], harness := (true, "9995d2e00ccad974306681af510a8a98afa1bc79c8b7d3dea99beba46a37e19f"), looks := false }, kinds := [], alts := [], laidByText := true, laidKinds := [.data, .pinned], laidTests := true, laidLooks := .later }
def ConcurrencyPlaysCardSaid : Prop := Claim7.holds Tryd.pinned (.plain (OpenSpec.ofChange concurrencyPlaysSpec)) concurrencyPlaysCard

/-- THE TIED CARD OF 'pipelinelaw24.ConcurrencyOrder'. -/
def concurrencyOrderCard : Claim7 := { stood := { row := concurrencyOrderRow, standIns := [], harness := (true, "9995d2e00ccad974306681af510a8a98afa1bc79c8b7d3dea99beba46a37e19f"), looks := false }, kinds := [], alts := [], laidByText := true, laidKinds := [.data, .pinned], laidTests := true, laidLooks := .later }
def ConcurrencyOrderCardSaid : Prop := Claim7.holds Tryd.pinned (.plain (OpenSpec.ofChange concurrencyOrderSpec)) concurrencyOrderCard

/-- THE SECOND FORM's CARD OF 'pipelinelaw24.ConcurrencyValid'. -/
def concurrencyValidUptoCard : Claim7 := { stood := { row := concurrencyValidUptoRow, standIns := [], harness := (true, "9995d2e00ccad974306681af510a8a98afa1bc79c8b7d3dea99beba46a37e19f"), looks := false }, kinds := [], alts := [], laidByText := true, laidKinds := [.data, .pinned], laidTests := true, laidLooks := .later }
def ConcurrencyValidUptoCardSaid : Prop := Claim7.holds Tryd.pinned (.plain (OpenSpec.upto concurrencyValidSpec)) concurrencyValidUptoCard

/-- THE SECOND FORM's CARD OF 'pipelinelaw24.ConcurrencyEnters'. -/
def concurrencyEntersUptoCard : Claim7 := { stood := { row := concurrencyEntersUptoRow, standIns := [], harness := (true, "9995d2e00ccad974306681af510a8a98afa1bc79c8b7d3dea99beba46a37e19f"), looks := false }, kinds := [], alts := [], laidByText := true, laidKinds := [.data, .pinned], laidTests := true, laidLooks := .later }
def ConcurrencyEntersUptoCardSaid : Prop := Claim7.holds Tryd.pinned (.plain (OpenSpec.upto concurrencyEntersSpec)) concurrencyEntersUptoCard

/-- THE SECOND FORM's CARD OF 'pipelinelaw24.ConcurrencyPolicies'. -/
def concurrencyPoliciesUptoCard : Claim7 := { stood := { row := concurrencyPoliciesUptoRow, standIns := [], harness := (true, "9995d2e00ccad974306681af510a8a98afa1bc79c8b7d3dea99beba46a37e19f"), looks := false }, kinds := [], alts := [], laidByText := true, laidKinds := [.data, .pinned], laidTests := true, laidLooks := .later }
def ConcurrencyPoliciesUptoCardSaid : Prop := Claim7.holds Tryd.pinned (.plain (OpenSpec.upto concurrencyPoliciesSpec)) concurrencyPoliciesUptoCard

/-- THE SECOND FORM's CARD OF 'pipelinelaw24.ConcurrencyMoves'. -/
def concurrencyMovesUptoCard : Claim7 := { stood := { row := concurrencyMovesUptoRow, standIns := [], harness := (true, "9995d2e00ccad974306681af510a8a98afa1bc79c8b7d3dea99beba46a37e19f"), looks := false }, kinds := [], alts := [], laidByText := true, laidKinds := [.data, .pinned], laidTests := true, laidLooks := .later }
def ConcurrencyMovesUptoCardSaid : Prop := Claim7.holds Tryd.pinned (.plain (OpenSpec.upto concurrencyMovesSpec)) concurrencyMovesUptoCard

/-- THE SECOND FORM's CARD OF 'pipelinelaw24.ConcurrencyPlays'. -/
def concurrencyPlaysUptoCard : Claim7 := { stood := { row := concurrencyPlaysUptoRow, standIns := [], harness := (true, "9995d2e00ccad974306681af510a8a98afa1bc79c8b7d3dea99beba46a37e19f"), looks := false }, kinds := [], alts := [], laidByText := true, laidKinds := [.data, .pinned], laidTests := true, laidLooks := .later }
def ConcurrencyPlaysUptoCardSaid : Prop := Claim7.holds Tryd.pinned (.plain (OpenSpec.upto concurrencyPlaysSpec)) concurrencyPlaysUptoCard

/-- THE SECOND FORM's CARD OF 'pipelinelaw24.ConcurrencyOrder'. -/
def concurrencyOrderUptoCard : Claim7 := { stood := { row := concurrencyOrderUptoRow, standIns := [], harness := (true, "9995d2e00ccad974306681af510a8a98afa1bc79c8b7d3dea99beba46a37e19f"), looks := false }, kinds := [], alts := [], laidByText := true, laidKinds := [.data, .pinned], laidTests := true, laidLooks := .later }
def ConcurrencyOrderUptoCardSaid : Prop := Claim7.holds Tryd.pinned (.plain (OpenSpec.upto concurrencyOrderSpec)) concurrencyOrderUptoCard
end Rows
end Go.Proofs.YtbellobjajnlkaaDoor
