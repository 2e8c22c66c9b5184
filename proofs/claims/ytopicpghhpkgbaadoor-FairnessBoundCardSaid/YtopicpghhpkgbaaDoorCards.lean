/-
  DERIVED. GIVEN WITH THE SEED: THE CARDS: each row of YtopicpghhpkgbaaDoorRows.lean that lists a variable, with what it lists TIED to the program's text (the seventh form; the later family's looks); each row that meets fmt, with fmt's text TOLD by the authors' own Lean function (tested against real Go, not proved from fmt's source: count such statements apart). THE CARD IS WHAT COUNTS. Prove the row's statement (the work); the ties are given (YtopicpghhpkgbaaDoorTie.lean); close each card by the builder's one call (the guide's Derived/Test/ToyasCard.lean, 'card_holds'). Laid BY PROGRAM, IN A SANDBOX (cutbox-door.mjs). By AI agents, Wed Nov 11 2026. No macro, syntax, notation, axiom, sorry.
-/
import Derived.Test.YtopicpghhpkgbaaDoorRows
import GoSem.ClaimSeven
namespace Go.Proofs.YtopicpghhpkgbaaDoor
namespace Rows

/-- THE TIED CARD OF 'pipelinelaw23.FairnessAdd'. -/
def fairnessAddCard : Claim7 := { stood := { row := fairnessAddRow, standIns := [], harness := (true, "7ac2bdda71eab53d4a6f35ce08d8c21bf71243fb3d9651daea1ba3ca3015b3c8"), looks := false }, kinds := [], alts := [], laidByText := true, laidKinds := [.data, .pinned], laidTests := true, laidLooks := .later }
def FairnessAddCardSaid : Prop := Claim7.holds Tryd.pinned (.plain (OpenSpec.ofChange fairnessAddSpec)) fairnessAddCard

/-- THE TIED CARD OF 'pipelinelaw23.FairnessCharge'. -/
def fairnessChargeCard : Claim7 := { stood := { row := fairnessChargeRow, standIns := [], harness := (true, "7ac2bdda71eab53d4a6f35ce08d8c21bf71243fb3d9651daea1ba3ca3015b3c8"), looks := false }, kinds := [], alts := [], laidByText := true, laidKinds := [.data, .pinned], laidTests := true, laidLooks := .later }
def FairnessChargeCardSaid : Prop := Claim7.holds Tryd.pinned (.plain (OpenSpec.ofChange fairnessChargeSpec)) fairnessChargeCard

/-- THE TIED CARD OF 'pipelinelaw23.FairnessPick'. -/
def fairnessPickCard : Claim7 := { stood := { row := fairnessPickRow, standIns := [], harness := (true, "7ac2bdda71eab53d4a6f35ce08d8c21bf71243fb3d9651daea1ba3ca3015b3c8"), looks := false }, kinds := [], alts := [], laidByText := true, laidKinds := [.data, .pinned], laidTests := true, laidLooks := .later }
def FairnessPickCardSaid : Prop := Claim7.holds Tryd.pinned (.plain (OpenSpec.ofChange fairnessPickSpec)) fairnessPickCard

/-- THE TIED CARD OF 'pipelinelaw23.FairnessJoins'. -/
def fairnessJoinsCard : Claim7 := { stood := { row := fairnessJoinsRow, standIns := [], harness := (true, "7ac2bdda71eab53d4a6f35ce08d8c21bf71243fb3d9651daea1ba3ca3015b3c8"), looks := false }, kinds := [], alts := [], laidByText := true, laidKinds := [.data, .pinned], laidTests := true, laidLooks := .later }
def FairnessJoinsCardSaid : Prop := Claim7.holds Tryd.pinned (.plain (OpenSpec.ofChange fairnessJoinsSpec)) fairnessJoinsCard

/-- THE TIED CARD OF 'pipelinelaw23.FairnessOrder'. -/
def fairnessOrderCard : Claim7 := { stood := { row := fairnessOrderRow, standIns := [], harness := (true, "7ac2bdda71eab53d4a6f35ce08d8c21bf71243fb3d9651daea1ba3ca3015b3c8"), looks := false }, kinds := [], alts := [], laidByText := true, laidKinds := [.data, .pinned], laidTests := true, laidLooks := .later }
def FairnessOrderCardSaid : Prop := Claim7.holds Tryd.pinned (.plain (OpenSpec.ofChange fairnessOrderSpec)) fairnessOrderCard

/-- THE TIED CARD OF 'pipelinelaw23.FairnessBound'. -/
def fairnessBoundCard : Claim7 := { stood := { row := fairnessBoundRow, standIns := [], harness := (true, "7ac2bdda71eab53d4a6f35ce08d8c21bf71243fb3d9651daea1ba3ca3015b3c8"), looks := false }, kinds := [], alts := [], laidByText := true, laidKinds := [.data, .pinned], laidTests := true, laidLooks := .later }
def FairnessBoundCardSaid : Prop := Claim7.holds Tryd.pinned (.plain (OpenSpec.ofChange fairnessBoundSpec)) fairnessBoundCard

/-- THE SECOND FORM's CARD OF 'pipelinelaw23.FairnessAdd'. -/
def fairnessAddUptoCard : Claim7 := { stood := { row := fairnessAddUptoRow, standIns := [], harness := (true, "7ac2bdda71eab53d4a6f35ce08d8c21bf71243fb3d9651daea1ba3ca3015b3c8"), looks := false }, kinds := [], alts := [], laidByText := true, laidKinds := [.data, .pinned], laidTests := true, laidLooks := .later }
def FairnessAddUptoCardSaid : Prop := Claim7.holds Tryd.pinned (.plain (OpenSpec.upto fairnessAddSpec)) fairnessAddUptoCard

/-- THE SECOND FORM's CARD OF 'pipelinelaw23.FairnessCharge'. -/
def fairnessChargeUptoCard : Claim7 := { stood := { row := fairnessChargeUptoRow, standIns := [], harness := (true, "7ac2bdda71eab53d4a6f35ce08d8c21bf71243fb3d9651daea1ba3ca3015b3c8"), looks := false }, kinds := [], alts := [], laidByText := true, laidKinds := [.data, .pinned], laidTests := true, laidLooks := .later }
def FairnessChargeUptoCardSaid : Prop := Claim7.holds Tryd.pinned (.plain (OpenSpec.upto fairnessChargeSpec)) fairnessChargeUptoCard

/-- THE SECOND FORM's CARD OF 'pipelinelaw23.FairnessPick'. -/
def fairnessPickUptoCard : Claim7 := { stood := { row := fairnessPickUptoRow, standIns := [], harness := (true, "7ac2bdda71eab53d4a6f35ce08d8c21bf71243fb3d9651daea1ba3ca3015b3c8"), looks := false }, kinds := [], alts := [], laidByText := true, laidKinds := [.data, .pinned], laidTests := true, laidLooks := .later }
def FairnessPickUptoCardSaid : Prop := Claim7.holds Tryd.pinned (.plain (OpenSpec.upto fairnessPickSpec)) fairnessPickUptoCard

/-- THE SECOND FORM's CARD OF 'pipelinelaw23.FairnessJoins'. -/
def fairnessJoinsUptoCard : Claim7 := { stood := { row := fairnessJoinsUptoRow, standIns := [], harness := (true, "7ac2bdda71eab53d4a6f35ce08d8c21bf71243fb3d9651daea1ba3ca3015b3c8"), looks := false }, kinds := [], alts := [], laidByText := true, laidKinds := [.data, .pinned], laidTests := true, laidLooks := .later }
def FairnessJoinsUptoCardSaid : Prop := Claim7.holds Tryd.pinned (.plain (OpenSpec.upto fairnessJoinsSpec)) fairnessJoinsUptoCard

/-- THE SECOND FORM's CARD OF 'pipelinelaw23.FairnessOrder'. -/
def fairnessOrderUptoCard : Claim7 := { stood := { row := fairnessOrderUptoRow, standIns := [], harness := (true, "7ac2bdda71eab53d4a6f35ce08d8c21bf71243fb3d9651daea1ba3ca3015b3c8"), looks := false }, kinds := [], alts := [], laidByText := true, laidKinds := [.data, .pinned], laidTests := true, laidLooks := .later }
def FairnessOrderUptoCardSaid : Prop := Claim7.holds Tryd.pinned (.plain (OpenSpec.upto fairnessOrderSpec)) fairnessOrderUptoCard

/-- THE SECOND FORM's CARD OF 'pipelinelaw23.FairnessBound'. -/
def fairnessBoundUptoCard : Claim7 := { stood := { row := fairnessBoundUptoRow, standIns := [], harness := (true, "7ac2bdda71eab53d4a6f35ce08d8c21bf71243fb3d9651daea1ba3ca3015b3c8"), looks := false }, kinds := [], alts := [], laidByText := true, laidKinds := [.data, .pinned], laidTests := true, laidLooks := .later }
def FairnessBoundUptoCardSaid : Prop := Claim7.holds Tryd.pinned (.plain (OpenSpec.upto fairnessBoundSpec)) fairnessBoundUptoCard
end Rows
end Go.Proofs.YtopicpghhpkgbaaDoor
