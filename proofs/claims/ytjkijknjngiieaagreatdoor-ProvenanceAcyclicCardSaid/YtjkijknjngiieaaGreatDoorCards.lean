/-
  DERIVED. GIVEN WITH THE SEED: THE CARDS: each row of YtjkijknjngiieaaGreatDoorRows.lean that lists a variable, with what it lists TIED to the program's text (the seventh form; the later family's looks); each row that meets fmt, with fmt's text TOLD by the authors' own Lean function (tested against real Go, not proved from fmt's source: count such statements apart). THE CARD IS WHAT COUNTS. Prove the row's statement (the work); the ties are given (YtjkijknjngiieaaGreatDoorTie.lean); close each card by the builder's one call (the guide's Derived/Test/ToyasCard.lean, 'card_holds'). Laid BY PROGRAM, IN A SANDBOX (cutbox-door.mjs). By AI agents, Wed Nov 11 2026. No macro, syntax, notation, axiom, sorry.
-/
import Derived.Test.YtjkijknjngiieaaGreatDoorRows
import GoSem.ClaimSeven
namespace Go.Proofs.YtjkijknjngiieaaGreatDoor
namespace Rows

/-- THE TIED CARD OF 'pipelinelaw35.ProvenanceAdds'. -/
def provenanceAddsCard : Claim7 := { stood := { row := provenanceAddsRow, standIns := [], harness := (true, "e98713a09fe64aba6957eaa840bf92e828c7156abf4092f9cc2d2ed81c5d322f"), looks := false }, kinds := [], alts := [], laidByText := true, laidKinds := [.data, .pinned], laidTests := true, laidLooks := .later }
def ProvenanceAddsCardSaid : Prop := Claim7.holds Tryz.pinned (.plain (OpenSpec.ofChange provenanceAddsSpec)) provenanceAddsCard

/-- THE TIED CARD OF 'pipelinelaw35.ProvenanceLooks'. -/
def provenanceLooksCard : Claim7 := { stood := { row := provenanceLooksRow, standIns := [], harness := (true, "e98713a09fe64aba6957eaa840bf92e828c7156abf4092f9cc2d2ed81c5d322f"), looks := false }, kinds := [], alts := [], laidByText := true, laidKinds := [.data, .pinned], laidTests := true, laidLooks := .later }
def ProvenanceLooksCardSaid : Prop := Claim7.holds Tryz.pinned (.plain (OpenSpec.ofChange provenanceLooksSpec)) provenanceLooksCard

/-- THE TIED CARD OF 'pipelinelaw35.ProvenanceVerifies'. -/
def provenanceVerifiesCard : Claim7 := { stood := { row := provenanceVerifiesRow, standIns := [], harness := (true, "e98713a09fe64aba6957eaa840bf92e828c7156abf4092f9cc2d2ed81c5d322f"), looks := false }, kinds := [], alts := [], laidByText := true, laidKinds := [.data, .pinned], laidTests := true, laidLooks := .later }
def ProvenanceVerifiesCardSaid : Prop := Claim7.holds Tryz.pinned (.plain (OpenSpec.ofChange provenanceVerifiesSpec)) provenanceVerifiesCard

/-- THE TIED CARD OF 'pipelinelaw35.ProvenanceAcyclic'. -/
def provenanceAcyclicCard : Claim7 := { stood := { row := provenanceAcyclicRow, standIns := [], harness := (true, "e98713a09fe64aba6957eaa840bf92e828c7156abf4092f9cc2d2ed81c5d322f"), looks := false }, kinds := [], alts := [], laidByText := true, laidKinds := [.data, .pinned], laidTests := true, laidLooks := .later }
def ProvenanceAcyclicCardSaid : Prop := Claim7.holds Tryz.pinned (.plain (OpenSpec.ofChange provenanceAcyclicSpec)) provenanceAcyclicCard

/-- THE TIED CARD OF 'pipelinelaw35.ProvenanceSpec'. -/
def provenanceSpecCard : Claim7 := { stood := { row := provenanceSpecRow, standIns := [], harness := (true, "e98713a09fe64aba6957eaa840bf92e828c7156abf4092f9cc2d2ed81c5d322f"), looks := false }, kinds := [], alts := [], laidByText := true, laidKinds := [.data, .pinned], laidTests := true, laidLooks := .later }
def ProvenanceSpecCardSaid : Prop := Claim7.holds Tryz.pinned (.plain (OpenSpec.ofChange provenanceSpecSpec)) provenanceSpecCard

/-- THE SECOND FORM's CARD OF 'pipelinelaw35.ProvenanceAdds'. -/
def provenanceAddsUptoCard : Claim7 := { stood := { row := provenanceAddsUptoRow, standIns := [], harness := (true, "e98713a09fe64aba6957eaa840bf92e828c7156abf4092f9cc2d2ed81c5d322f"), looks := false }, kinds := [], alts := [], laidByText := true, laidKinds := [.data, .pinned], laidTests := true, laidLooks := .later }
def ProvenanceAddsUptoCardSaid : Prop := Claim7.holds Tryz.pinned (.plain (OpenSpec.upto provenanceAddsSpec)) provenanceAddsUptoCard

/-- THE SECOND FORM's CARD OF 'pipelinelaw35.ProvenanceLooks'. -/
def provenanceLooksUptoCard : Claim7 := { stood := { row := provenanceLooksUptoRow, standIns := [], harness := (true, "e98713a09fe64aba6957eaa840bf92e828c7156abf4092f9cc2d2ed81c5d322f"), looks := false }, kinds := [], alts := [], laidByText := true, laidKinds := [.data, .pinned], laidTests := true, laidLooks := .later }
def ProvenanceLooksUptoCardSaid : Prop := Claim7.holds Tryz.pinned (.plain (OpenSpec.upto provenanceLooksSpec)) provenanceLooksUptoCard

/-- THE SECOND FORM's CARD OF 'pipelinelaw35.ProvenanceVerifies'. -/
def provenanceVerifiesUptoCard : Claim7 := { stood := { row := provenanceVerifiesUptoRow, standIns := [], harness := (true, "e98713a09fe64aba6957eaa840bf92e828c7156abf4092f9cc2d2ed81c5d322f"), looks := false }, kinds := [], alts := [], laidByText := true, laidKinds := [.data, .pinned], laidTests := true, laidLooks := .later }
def ProvenanceVerifiesUptoCardSaid : Prop := Claim7.holds Tryz.pinned (.plain (OpenSpec.upto provenanceVerifiesSpec)) provenanceVerifiesUptoCard

/-- THE SECOND FORM's CARD OF 'pipelinelaw35.ProvenanceAcyclic'. -/
def provenanceAcyclicUptoCard : Claim7 := { stood := { row := provenanceAcyclicUptoRow, standIns := [], harness := (true, "e98713a09fe64aba6957eaa840bf92e828c7156abf4092f9cc2d2ed81c5d322f"), looks := false }, kinds := [], alts := [], laidByText := true, laidKinds := [.data, .pinned], laidTests := true, laidLooks := .later }
def ProvenanceAcyclicUptoCardSaid : Prop := Claim7.holds Tryz.pinned (.plain (OpenSpec.upto provenanceAcyclicSpec)) provenanceAcyclicUptoCard

/-- THE SECOND FORM's CARD OF 'pipelinelaw35.ProvenanceSpec'. -/
def provenanceSpecUptoCard : Claim7 := { stood := { row := provenanceSpecUptoRow, standIns := [], harness := (true, "e98713a09fe64aba6957eaa840bf92e828c7156abf4092f9cc2d2ed81c5d322f"), looks := false }, kinds := [], alts := [], laidByText := true, laidKinds := [.data, .pinned], laidTests := true, laidLooks := .later }
def ProvenanceSpecUptoCardSaid : Prop := Claim7.holds Tryz.pinned (.plain (OpenSpec.upto provenanceSpecSpec)) provenanceSpecUptoCard
end Rows
end Go.Proofs.YtjkijknjngiieaaGreatDoor
