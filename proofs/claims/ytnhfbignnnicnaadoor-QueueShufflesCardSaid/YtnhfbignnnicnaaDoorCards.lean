/-
  DERIVED. GIVEN WITH THE SEED: THE CARDS: each row of YtnhfbignnnicnaaDoorRows.lean that lists a variable, with what it lists TIED to the program's text (the seventh form; the later family's looks); each row that meets fmt, with fmt's text TOLD by the authors' own Lean function (tested against real Go, not proved from fmt's source: count such statements apart). THE CARD IS WHAT COUNTS. Prove the row's statement (the work); the ties are given (YtnhfbignnnicnaaDoorTie.lean); close each card by the builder's one call (the guide's Derived/Test/ToyasCard.lean, 'card_holds'). Laid BY PROGRAM, IN A SANDBOX (cutbox-door.mjs). By AI agents, Wed Nov 11 2026. No macro, syntax, notation, axiom, sorry.
-/
import Derived.Test.YtnhfbignnnicnaaDoorRows
import GoSem.ClaimSeven
namespace Go.Proofs.YtnhfbignnnicnaaDoor
namespace Rows

/-- THE TIED CARD OF 'pipelinelaw25.QueuePush'. -/
def queuePushCard : Claim7 := { stood := { row := queuePushRow, standIns := [], harness := (true, "438bec41ef58284d87f18d17dc6d0cede6a4914b548a3e8bd7b081d8ea29133b"), looks := false }, kinds := [], alts := [], laidByText := true, laidKinds := [.data, .pinned], laidTests := true, laidLooks := .later }
def QueuePushCardSaid : Prop := Claim7.holds Tryd.pinned (.plain (OpenSpec.ofChange queuePushSpec)) queuePushCard

/-- THE TIED CARD OF 'pipelinelaw25.QueueFull'. -/
def queueFullCard : Claim7 := { stood := { row := queueFullRow, standIns := [], harness := (true, "438bec41ef58284d87f18d17dc6d0cede6a4914b548a3e8bd7b081d8ea29133b"), looks := false }, kinds := [], alts := [], laidByText := true, laidKinds := [.data, .pinned], laidTests := true, laidLooks := .later }
def QueueFullCardSaid : Prop := Claim7.holds Tryd.pinned (.plain (OpenSpec.ofChange queueFullSpec)) queueFullCard

/-- THE TIED CARD OF 'pipelinelaw25.QueueRanks'. -/
def queueRanksCard : Claim7 := { stood := { row := queueRanksRow, standIns := [], harness := (true, "438bec41ef58284d87f18d17dc6d0cede6a4914b548a3e8bd7b081d8ea29133b"), looks := false }, kinds := [], alts := [], laidByText := true, laidKinds := [.data, .pinned], laidTests := true, laidLooks := .later }
def QueueRanksCardSaid : Prop := Claim7.holds Tryd.pinned (.plain (OpenSpec.ofChange queueRanksSpec)) queueRanksCard

/-- THE TIED CARD OF 'pipelinelaw25.QueueOrder'. -/
def queueOrderCard : Claim7 := { stood := { row := queueOrderRow, standIns := [], harness := (true, "438bec41ef58284d87f18d17dc6d0cede6a4914b548a3e8bd7b081d8ea29133b"), looks := false }, kinds := [], alts := [], laidByText := true, laidKinds := [.data, .pinned], laidTests := true, laidLooks := .later }
def QueueOrderCardSaid : Prop := Claim7.holds Tryd.pinned (.plain (OpenSpec.ofChange queueOrderSpec)) queueOrderCard

/-- THE TIED CARD OF 'pipelinelaw25.QueueShuffles'. -/
def queueShufflesCard : Claim7 := { stood := { row := queueShufflesRow, standIns := [], harness := (true, "438bec41ef58284d87f18d17dc6d0cede6a4914b548a3e8bd7b081d8ea29133b"), looks := false }, kinds := [], alts := [], laidByText := true, laidKinds := [.data, .pinned], laidTests := true, laidLooks := .later }
def QueueShufflesCardSaid : Prop := Claim7.holds Tryd.pinned (.plain (OpenSpec.ofChange queueShufflesSpec)) queueShufflesCard

/-- THE TIED CARD OF 'pipelinelaw25.QueueAges'. -/
def queueAgesCard : Claim7 := { stood := { row := queueAgesRow, standIns := [], harness := (true, "438bec41ef58284d87f18d17dc6d0cede6a4914b548a3e8bd7b081d8ea29133b"), looks := false }, kinds := [], alts := [], laidByText := true, laidKinds := [.data, .pinned], laidTests := true, laidLooks := .later }
def QueueAgesCardSaid : Prop := Claim7.holds Tryd.pinned (.plain (OpenSpec.ofChange queueAgesSpec)) queueAgesCard

/-- THE TIED CARD OF 'pipelinelaw25.QueueRemove'. -/
def queueRemoveCard : Claim7 := { stood := { row := queueRemoveRow, standIns := [], harness := (true, "438bec41ef58284d87f18d17dc6d0cede6a4914b548a3e8bd7b081d8ea29133b"), looks := false }, kinds := [], alts := [], laidByText := true, laidKinds := [.data, .pinned], laidTests := true, laidLooks := .later }
def QueueRemoveCardSaid : Prop := Claim7.holds Tryd.pinned (.plain (OpenSpec.ofChange queueRemoveSpec)) queueRemoveCard

/-- THE TIED CARD OF 'pipelinelaw25.QueueProjects'. -/
def queueProjectsCard : Claim7 := { stood := { row := queueProjectsRow, standIns := [], harness := (true, "438bec41ef58284d87f18d17dc6d0cede6a4914b548a3e8bd7b081d8ea29133b"), looks := false }, kinds := [], alts := [], laidByText := true, laidKinds := [.data, .pinned], laidTests := true, laidLooks := .later }
def QueueProjectsCardSaid : Prop := Claim7.holds Tryd.pinned (.plain (OpenSpec.ofChange queueProjectsSpec)) queueProjectsCard

/-- THE SECOND FORM's CARD OF 'pipelinelaw25.QueuePush'. -/
def queuePushUptoCard : Claim7 := { stood := { row := queuePushUptoRow, standIns := [], harness := (true, "438bec41ef58284d87f18d17dc6d0cede6a4914b548a3e8bd7b081d8ea29133b"), looks := false }, kinds := [], alts := [], laidByText := true, laidKinds := [.data, .pinned], laidTests := true, laidLooks := .later }
def QueuePushUptoCardSaid : Prop := Claim7.holds Tryd.pinned (.plain (OpenSpec.upto queuePushSpec)) queuePushUptoCard

/-- THE SECOND FORM's CARD OF 'pipelinelaw25.QueueFull'. -/
def queueFullUptoCard : Claim7 := { stood := { row := queueFullUptoRow, standIns := [], harness := (true, "438bec41ef58284d87f18d17dc6d0cede6a4914b548a3e8bd7b081d8ea29133b"), looks := false }, kinds := [], alts := [], laidByText := true, laidKinds := [.data, .pinned], laidTests := true, laidLooks := .later }
def QueueFullUptoCardSaid : Prop := Claim7.holds Tryd.pinned (.plain (OpenSpec.upto queueFullSpec)) queueFullUptoCard

/-- THE SECOND FORM's CARD OF 'pipelinelaw25.QueueRanks'. -/
def queueRanksUptoCard : Claim7 := { stood := { row := queueRanksUptoRow, standIns := [], harness := (true, "438bec41ef58284d87f18d17dc6d0cede6a4914b548a3e8bd7b081d8ea29133b"), looks := false }, kinds := [], alts := [], laidByText := true, laidKinds := [.data, .pinned], laidTests := true, laidLooks := .later }
def QueueRanksUptoCardSaid : Prop := Claim7.holds Tryd.pinned (.plain (OpenSpec.upto queueRanksSpec)) queueRanksUptoCard

/-- THE SECOND FORM's CARD OF 'pipelinelaw25.QueueOrder'. -/
def queueOrderUptoCard : Claim7 := { stood := { row := queueOrderUptoRow, standIns := [], harness := (true, "438bec41ef58284d87f18d17dc6d0cede6a4914b548a3e8bd7b081d8ea29133b"), looks := false }, kinds := [], alts := [], laidByText := true, laidKinds := [.data, .pinned], laidTests := true, laidLooks := .later }
def QueueOrderUptoCardSaid : Prop := Claim7.holds Tryd.pinned (.plain (OpenSpec.upto queueOrderSpec)) queueOrderUptoCard

/-- THE SECOND FORM's CARD OF 'pipelinelaw25.QueueShuffles'. -/
def queueShufflesUptoCard : Claim7 := { stood := { row := queueShufflesUptoRow, standIns := [], harness := (true, "438bec41ef58284d87f18d17dc6d0cede6a4914b548a3e8bd7b081d8ea29133b"), looks := false }, kinds := [], alts := [], laidByText := true, laidKinds := [.data, .pinned], laidTests := true, laidLooks := .later }
def QueueShufflesUptoCardSaid : Prop := Claim7.holds Tryd.pinned (.plain (OpenSpec.upto queueShufflesSpec)) queueShufflesUptoCard

/-- THE SECOND FORM's CARD OF 'pipelinelaw25.QueueAges'. -/
def queueAgesUptoCard : Claim7 := { stood := { row := queueAgesUptoRow, standIns := [], harness := (true, "438bec41ef58284d87f18d17dc6d0cede6a4914b548a3e8bd7b081d8ea29133b"), looks := false }, kinds := [], alts := [], laidByText := true, laidKinds := [.data, .pinned], laidTests := true, laidLooks := .later }
def QueueAgesUptoCardSaid : Prop := Claim7.holds Tryd.pinned (.plain (OpenSpec.upto queueAgesSpec)) queueAgesUptoCard

/-- THE SECOND FORM's CARD OF 'pipelinelaw25.QueueRemove'. -/
def queueRemoveUptoCard : Claim7 := { stood := { row := queueRemoveUptoRow, standIns := [], harness := (true, "438bec41ef58284d87f18d17dc6d0cede6a4914b548a3e8bd7b081d8ea29133b"), looks := false }, kinds := [], alts := [], laidByText := true, laidKinds := [.data, .pinned], laidTests := true, laidLooks := .later }
def QueueRemoveUptoCardSaid : Prop := Claim7.holds Tryd.pinned (.plain (OpenSpec.upto queueRemoveSpec)) queueRemoveUptoCard

/-- THE SECOND FORM's CARD OF 'pipelinelaw25.QueueProjects'. -/
def queueProjectsUptoCard : Claim7 := { stood := { row := queueProjectsUptoRow, standIns := [], harness := (true, "438bec41ef58284d87f18d17dc6d0cede6a4914b548a3e8bd7b081d8ea29133b"), looks := false }, kinds := [], alts := [], laidByText := true, laidKinds := [.data, .pinned], laidTests := true, laidLooks := .later }
def QueueProjectsUptoCardSaid : Prop := Claim7.holds Tryd.pinned (.plain (OpenSpec.upto queueProjectsSpec)) queueProjectsUptoCard
end Rows
end Go.Proofs.YtnhfbignnnicnaaDoor
