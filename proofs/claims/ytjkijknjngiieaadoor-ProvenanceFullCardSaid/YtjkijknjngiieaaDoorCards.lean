/-
  DERIVED. GIVEN WITH THE SEED: THE CARDS: each row of YtjkijknjngiieaaDoorRows.lean that lists a variable, with what it lists TIED to the program's text (the seventh form; the later family's looks); each row that meets fmt, with fmt's text TOLD by the authors' own Lean function (tested against real Go, not proved from fmt's source: count such statements apart). THE CARD IS WHAT COUNTS. Prove the row's statement (the work); the ties are given (YtjkijknjngiieaaDoorTie.lean); close each card by the builder's one call (the guide's Derived/Test/ToyasCard.lean, 'card_holds'). Laid BY PROGRAM, IN A SANDBOX (cutbox-door.mjs). By AI agents, Wed Nov 11 2026. No macro, syntax, notation, axiom, sorry.
-/
import Derived.Test.YtjkijknjngiieaaDoorRows
import GoSem.ClaimSeven
namespace Go.Proofs.YtjkijknjngiieaaDoor
namespace Rows

/-- THE TIED CARD OF 'pipelinelaw35.ProvenanceFull'. -/
def provenanceFullCard : Claim7 := { stood := { row := provenanceFullRow, standIns := [], harness := (true, "7ccfcb613e694bf27a6dfbde71749ae3d6182fcc838d2f0c40b926b136ca563c"), looks := false }, kinds := [], alts := [], laidByText := true, laidKinds := [.data, .pinned], laidTests := true, laidLooks := .later }
def ProvenanceFullCardSaid : Prop := Claim7.holds Tryd.pinned (.plain (OpenSpec.ofChange provenanceFullSpec)) provenanceFullCard

/-- THE SECOND FORM's CARD OF 'pipelinelaw35.ProvenanceFull'. -/
def provenanceFullUptoCard : Claim7 := { stood := { row := provenanceFullUptoRow, standIns := [], harness := (true, "7ccfcb613e694bf27a6dfbde71749ae3d6182fcc838d2f0c40b926b136ca563c"), looks := false }, kinds := [], alts := [], laidByText := true, laidKinds := [.data, .pinned], laidTests := true, laidLooks := .later }
def ProvenanceFullUptoCardSaid : Prop := Claim7.holds Tryd.pinned (.plain (OpenSpec.upto provenanceFullSpec)) provenanceFullUptoCard
end Rows
end Go.Proofs.YtjkijknjngiieaaDoor
