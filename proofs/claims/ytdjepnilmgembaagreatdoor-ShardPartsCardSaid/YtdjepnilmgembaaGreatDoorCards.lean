/-
  DERIVED. GIVEN WITH THE SEED: THE CARDS: each row of YtdjepnilmgembaaGreatDoorRows.lean that lists a variable, with what it lists TIED to the program's text (the seventh form; the later family's looks); each row that meets fmt, with fmt's text TOLD by the authors' own Lean function (tested against real Go, not proved from fmt's source: count such statements apart). THE CARD IS WHAT COUNTS. Prove the row's statement (the work); the ties are given (YtdjepnilmgembaaGreatDoorTie.lean); close each card by the builder's one call (the guide's Derived/Test/ToyasCard.lean, 'card_holds'). Laid BY PROGRAM, IN A SANDBOX (cutbox-door.mjs). By AI agents, Wed Nov 11 2026. No macro, syntax, notation, axiom, sorry.
-/
import Derived.Test.YtdjepnilmgembaaGreatDoorRows
import GoSem.ClaimSeven
namespace Go.Proofs.YtdjepnilmgembaaGreatDoor
namespace Rows

/-- THE TIED CARD OF 'pipelinelaw38.ShardLoads'. -/
def shardLoadsCard : Claim7 := { stood := { row := shardLoadsRow, standIns := [], harness := (true, "178e2378c99579cb9e6062b2d7e70e0fc75754802d652292fd0cc429b4510921"), looks := false }, kinds := [], alts := [], laidByText := true, laidKinds := [.data, .pinned], laidTests := true, laidLooks := .later }
def ShardLoadsCardSaid : Prop := Claim7.holds Tryz.pinned (.plain (OpenSpec.ofChange shardLoadsSpec)) shardLoadsCard

/-- THE TIED CARD OF 'pipelinelaw38.ShardSplits'. -/
def shardSplitsCard : Claim7 := { stood := { row := shardSplitsRow, standIns := [], harness := (true, "178e2378c99579cb9e6062b2d7e70e0fc75754802d652292fd0cc429b4510921"), looks := false }, kinds := [], alts := [], laidByText := true, laidKinds := [.data, .pinned], laidTests := true, laidLooks := .later }
def ShardSplitsCardSaid : Prop := Claim7.holds Tryz.pinned (.plain (OpenSpec.ofChange shardSplitsSpec)) shardSplitsCard

/-- THE TIED CARD OF 'pipelinelaw38.ShardParts'. -/
def shardPartsCard : Claim7 := { stood := { row := shardPartsRow, standIns := [], harness := (true, "178e2378c99579cb9e6062b2d7e70e0fc75754802d652292fd0cc429b4510921"), looks := false }, kinds := [], alts := [], laidByText := true, laidKinds := [.data, .pinned], laidTests := true, laidLooks := .later }
def ShardPartsCardSaid : Prop := Claim7.holds Tryz.pinned (.plain (OpenSpec.ofChange shardPartsSpec)) shardPartsCard

/-- THE TIED CARD OF 'pipelinelaw38.ShardCovers'. -/
def shardCoversCard : Claim7 := { stood := { row := shardCoversRow, standIns := [], harness := (true, "178e2378c99579cb9e6062b2d7e70e0fc75754802d652292fd0cc429b4510921"), looks := false }, kinds := [], alts := [], laidByText := true, laidKinds := [.data, .pinned], laidTests := true, laidLooks := .later }
def ShardCoversCardSaid : Prop := Claim7.holds Tryz.pinned (.plain (OpenSpec.ofChange shardCoversSpec)) shardCoversCard

/-- THE TIED CARD OF 'pipelinelaw38.ShardTurns'. -/
def shardTurnsCard : Claim7 := { stood := { row := shardTurnsRow, standIns := [], harness := (true, "178e2378c99579cb9e6062b2d7e70e0fc75754802d652292fd0cc429b4510921"), looks := false }, kinds := [], alts := [], laidByText := true, laidKinds := [.data, .pinned], laidTests := true, laidLooks := .later }
def ShardTurnsCardSaid : Prop := Claim7.holds Tryz.pinned (.plain (OpenSpec.ofChange shardTurnsSpec)) shardTurnsCard

/-- THE SECOND FORM's CARD OF 'pipelinelaw38.ShardLoads'. -/
def shardLoadsUptoCard : Claim7 := { stood := { row := shardLoadsUptoRow, standIns := [], harness := (true, "178e2378c99579cb9e6062b2d7e70e0fc75754802d652292fd0cc429b4510921"), looks := false }, kinds := [], alts := [], laidByText := true, laidKinds := [.data, .pinned], laidTests := true, laidLooks := .later }
def ShardLoadsUptoCardSaid : Prop := Claim7.holds Tryz.pinned (.plain (OpenSpec.upto shardLoadsSpec)) shardLoadsUptoCard

/-- THE SECOND FORM's CARD OF 'pipelinelaw38.ShardSplits'. -/
def shardSplitsUptoCard : Claim7 := { stood := { row := shardSplitsUptoRow, standIns := [], harness := (true, "178e2378c99579cb9e6062b2d7e70e0fc75754802d652292fd0cc429b4510921"), looks := false }, kinds := [], alts := [], laidByText := true, laidKinds := [.data, .pinned], laidTests := true, laidLooks := .later }
def ShardSplitsUptoCardSaid : Prop := Claim7.holds Tryz.pinned (.plain (OpenSpec.upto shardSplitsSpec)) shardSplitsUptoCard

/-- THE SECOND FORM's CARD OF 'pipelinelaw38.ShardParts'. -/
def shardPartsUptoCard : Claim7 := { stood := { row := shardPartsUptoRow, standIns := [], harness := (true, "178e2378c99579cb9e6062b2d7e70e0fc75754802d652292fd0cc429b4510921"), looks := false }, kinds := [], alts := [], laidByText := true, laidKinds := [.data, .pinned], laidTests := true, laidLooks := .later }
def ShardPartsUptoCardSaid : Prop := Claim7.holds Tryz.pinned (.plain (OpenSpec.upto shardPartsSpec)) shardPartsUptoCard

/-- THE SECOND FORM's CARD OF 'pipelinelaw38.ShardCovers'. -/
def shardCoversUptoCard : Claim7 := { stood := { row := shardCoversUptoRow, standIns := [], harness := (true, "178e2378c99579cb9e6062b2d7e70e0fc75754802d652292fd0cc429b4510921"), looks := false }, kinds := [], alts := [], laidByText := true, laidKinds := [.data, .pinned], laidTests := true, laidLooks := .later }
def ShardCoversUptoCardSaid : Prop := Claim7.holds Tryz.pinned (.plain (OpenSpec.upto shardCoversSpec)) shardCoversUptoCard

/-- THE SECOND FORM's CARD OF 'pipelinelaw38.ShardTurns'. -/
def shardTurnsUptoCard : Claim7 := { stood := { row := shardTurnsUptoRow, standIns := [], harness := (true, "178e2378c99579cb9e6062b2d7e70e0fc75754802d652292fd0cc429b4510921"), looks := false }, kinds := [], alts := [], laidByText := true, laidKinds := [.data, .pinned], laidTests := true, laidLooks := .later }
def ShardTurnsUptoCardSaid : Prop := Claim7.holds Tryz.pinned (.plain (OpenSpec.upto shardTurnsSpec)) shardTurnsUptoCard
end Rows
end Go.Proofs.YtdjepnilmgembaaGreatDoor
