/-
  DERIVED. GIVEN WITH THE SEED: THE CARDS: each row of YtnahbfmbmpoljaaGreatDoorRows.lean that lists a variable, with what it lists TIED to the program's text (the seventh form; the later family's looks); each row that meets fmt, with fmt's text TOLD by the authors' own Lean function (tested against real Go, not proved from fmt's source: count such statements apart). THE CARD IS WHAT COUNTS. Prove the row's statement (the work); the ties are given (YtnahbfmbmpoljaaGreatDoorTie.lean); close each card by the builder's one call (the guide's Derived/Test/ToyasCard.lean, 'card_holds'). Laid BY PROGRAM, IN A SANDBOX (cutbox-door.mjs). By AI agents, Wed Nov 11 2026. No macro, syntax, notation, axiom, sorry.
-/
import Derived.Test.YtnahbfmbmpoljaaGreatDoorRows
import GoSem.ClaimSeven
namespace Go.Proofs.YtnahbfmbmpoljaaGreatDoor
namespace Rows

/-- THE TIED CARD OF 'pipelinelaw28.WorkerTokens'. -/
def workerTokensCard : Claim7 := { stood := { row := workerTokensRow, standIns := [], harness := (true, "637991ca5bf6b5e4e009ff7bf060caf14b4a54c6a5a7d1a093fd95205e913dec"), looks := false }, kinds := [], alts := [], laidByText := true, laidKinds := [.data, .pinned], laidTests := true, laidLooks := .later }
def WorkerTokensCardSaid : Prop := Claim7.holds Tryz.pinned (.plain (OpenSpec.ofChange workerTokensSpec)) workerTokensCard

/-- THE SECOND FORM's CARD OF 'pipelinelaw28.WorkerTokens'. -/
def workerTokensUptoCard : Claim7 := { stood := { row := workerTokensUptoRow, standIns := [], harness := (true, "637991ca5bf6b5e4e009ff7bf060caf14b4a54c6a5a7d1a093fd95205e913dec"), looks := false }, kinds := [], alts := [], laidByText := true, laidKinds := [.data, .pinned], laidTests := true, laidLooks := .later }
def WorkerTokensUptoCardSaid : Prop := Claim7.holds Tryz.pinned (.plain (OpenSpec.upto workerTokensSpec)) workerTokensUptoCard
end Rows
end Go.Proofs.YtnahbfmbmpoljaaGreatDoor
