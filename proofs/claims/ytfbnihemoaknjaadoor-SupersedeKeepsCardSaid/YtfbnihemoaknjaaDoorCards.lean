/-
  DERIVED. GIVEN WITH THE SEED: THE CARDS: each row of YtfbnihemoaknjaaDoorRows.lean that lists a variable, with what it lists TIED to the program's text (the seventh form; the later family's looks); each row that meets fmt, with fmt's text TOLD by the authors' own Lean function (tested against real Go, not proved from fmt's source: count such statements apart). THE CARD IS WHAT COUNTS. Prove the row's statement (the work); the ties are given (YtfbnihemoaknjaaDoorTie.lean); close each card by the builder's one call (the guide's Derived/Test/ToyasCard.lean, 'card_holds'). Laid BY PROGRAM, IN A SANDBOX (cutbox-door.mjs). By AI agents, Wed Nov 11 2026. No macro, syntax, notation, axiom, sorry.
-/
import Derived.Test.YtfbnihemoaknjaaDoorRows
import GoSem.ClaimSeven
namespace Go.Proofs.YtfbnihemoaknjaaDoor
namespace Rows

/-- THE TIED CARD OF 'pipelinelaw46.SupersedeOlder'. -/
def supersedeOlderCard : Claim7 := { stood := { row := supersedeOlderRow, standIns := [], harness := (true, "ebc573100b8ffdf87235c3f2ece651533dc72791b08359d3dc16408685024bb5"), looks := false }, kinds := [], alts := [], laidByText := true, laidKinds := [.data, .pinned], laidTests := true, laidLooks := .later }
def SupersedeOlderCardSaid : Prop := Claim7.holds Tryd.pinned (.plain (OpenSpec.ofChange supersedeOlderSpec)) supersedeOlderCard

/-- THE TIED CARD OF 'pipelinelaw46.SupersedeSame'. -/
def supersedeSameCard : Claim7 := { stood := { row := supersedeSameRow, standIns := [], harness := (true, "ebc573100b8ffdf87235c3f2ece651533dc72791b08359d3dc16408685024bb5"), looks := false }, kinds := [], alts := [], laidByText := true, laidKinds := [.data, .pinned], laidTests := true, laidLooks := .later }
def SupersedeSameCardSaid : Prop := Claim7.holds Tryd.pinned (.plain (OpenSpec.ofChange supersedeSameSpec)) supersedeSameCard

/-- THE TIED CARD OF 'pipelinelaw46.SupersedeChains'. -/
def supersedeChainsCard : Claim7 := { stood := { row := supersedeChainsRow, standIns := [], harness := (true, "ebc573100b8ffdf87235c3f2ece651533dc72791b08359d3dc16408685024bb5"), looks := false }, kinds := [], alts := [], laidByText := true, laidKinds := [.data, .pinned], laidTests := true, laidLooks := .later }
def SupersedeChainsCardSaid : Prop := Claim7.holds Tryd.pinned (.plain (OpenSpec.ofChange supersedeChainsSpec)) supersedeChainsCard

/-- THE TIED CARD OF 'pipelinelaw46.SupersedeKeeps'. -/
def supersedeKeepsCard : Claim7 := { stood := { row := supersedeKeepsRow, standIns := [], harness := (true, "ebc573100b8ffdf87235c3f2ece651533dc72791b08359d3dc16408685024bb5"), looks := false }, kinds := [], alts := [], laidByText := true, laidKinds := [.data, .pinned], laidTests := true, laidLooks := .later }
def SupersedeKeepsCardSaid : Prop := Claim7.holds Tryd.pinned (.plain (OpenSpec.ofChange supersedeKeepsSpec)) supersedeKeepsCard

/-- THE SECOND FORM's CARD OF 'pipelinelaw46.SupersedeOlder'. -/
def supersedeOlderUptoCard : Claim7 := { stood := { row := supersedeOlderUptoRow, standIns := [], harness := (true, "ebc573100b8ffdf87235c3f2ece651533dc72791b08359d3dc16408685024bb5"), looks := false }, kinds := [], alts := [], laidByText := true, laidKinds := [.data, .pinned], laidTests := true, laidLooks := .later }
def SupersedeOlderUptoCardSaid : Prop := Claim7.holds Tryd.pinned (.plain (OpenSpec.upto supersedeOlderSpec)) supersedeOlderUptoCard

/-- THE SECOND FORM's CARD OF 'pipelinelaw46.SupersedeSame'. -/
def supersedeSameUptoCard : Claim7 := { stood := { row := supersedeSameUptoRow, standIns := [], harness := (true, "ebc573100b8ffdf87235c3f2ece651533dc72791b08359d3dc16408685024bb5"), looks := false }, kinds := [], alts := [], laidByText := true, laidKinds := [.data, .pinned], laidTests := true, laidLooks := .later }
def SupersedeSameUptoCardSaid : Prop := Claim7.holds Tryd.pinned (.plain (OpenSpec.upto supersedeSameSpec)) supersedeSameUptoCard

/-- THE SECOND FORM's CARD OF 'pipelinelaw46.SupersedeChains'. -/
def supersedeChainsUptoCard : Claim7 := { stood := { row := supersedeChainsUptoRow, standIns := [], harness := (true, "ebc573100b8ffdf87235c3f2ece651533dc72791b08359d3dc16408685024bb5"), looks := false }, kinds := [], alts := [], laidByText := true, laidKinds := [.data, .pinned], laidTests := true, laidLooks := .later }
def SupersedeChainsUptoCardSaid : Prop := Claim7.holds Tryd.pinned (.plain (OpenSpec.upto supersedeChainsSpec)) supersedeChainsUptoCard

/-- THE SECOND FORM's CARD OF 'pipelinelaw46.SupersedeKeeps'. -/
def supersedeKeepsUptoCard : Claim7 := { stood := { row := supersedeKeepsUptoRow, standIns := [], harness := (true, "ebc573100b8ffdf87235c3f2ece651533dc72791b08359d3dc16408685024bb5"), looks := false }, kinds := [], alts := [], laidByText := true, laidKinds := [.data, .pinned], laidTests := true, laidLooks := .later }
def SupersedeKeepsUptoCardSaid : Prop := Claim7.holds Tryd.pinned (.plain (OpenSpec.upto supersedeKeepsSpec)) supersedeKeepsUptoCard
end Rows
end Go.Proofs.YtfbnihemoaknjaaDoor
