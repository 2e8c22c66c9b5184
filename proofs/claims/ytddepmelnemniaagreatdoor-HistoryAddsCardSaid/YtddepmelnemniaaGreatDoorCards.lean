/-
  DERIVED. GIVEN WITH THE SEED: THE CARDS: each row of YtddepmelnemniaaGreatDoorRows.lean that lists a variable, with what it lists TIED to the program's text (the seventh form; the later family's looks); each row that meets fmt, with fmt's text TOLD by the authors' own Lean function (tested against real Go, not proved from fmt's source: count such statements apart). THE CARD IS WHAT COUNTS. Prove the row's statement (the work); the ties are given (YtddepmelnemniaaGreatDoorTie.lean); close each card by the builder's one call (the guide's Derived/Test/ToyasCard.lean, 'card_holds'). Laid BY PROGRAM, IN A SANDBOX (cutbox-door.mjs). By AI agents, Wed Nov 11 2026. No macro, syntax, notation, axiom, sorry.
-/
import Derived.Test.YtddepmelnemniaaGreatDoorRows
import GoSem.ClaimSeven
namespace Go.Proofs.YtddepmelnemniaaGreatDoor
namespace Rows

/-- THE TIED CARD OF 'pipelinelaw37.HistoryValid'. -/
def historyValidCard : Claim7 := { stood := { row := historyValidRow, standIns := [], harness := (true, "6da398dc568ccca3592dad93efbead12d57425a31aeafa8e5970064782b13f04"), looks := false }, kinds := [], alts := [], laidByText := true, laidKinds := [.data, .pinned], laidTests := true, laidLooks := .later }
def HistoryValidCardSaid : Prop := Claim7.holds Tryz.pinned (.plain (OpenSpec.ofChange historyValidSpec)) historyValidCard

/-- THE TIED CARD OF 'pipelinelaw37.HistoryAdds'. -/
def historyAddsCard : Claim7 := { stood := { row := historyAddsRow, standIns := [], harness := (true, "6da398dc568ccca3592dad93efbead12d57425a31aeafa8e5970064782b13f04"), looks := false }, kinds := [], alts := [], laidByText := true, laidKinds := [.data, .pinned], laidTests := true, laidLooks := .later }
def HistoryAddsCardSaid : Prop := Claim7.holds Tryz.pinned (.plain (OpenSpec.ofChange historyAddsSpec)) historyAddsCard

/-- THE TIED CARD OF 'pipelinelaw37.HistoryKeeps'. -/
def historyKeepsCard : Claim7 := { stood := { row := historyKeepsRow, standIns := [], harness := (true, "6da398dc568ccca3592dad93efbead12d57425a31aeafa8e5970064782b13f04"), looks := false }, kinds := [], alts := [], laidByText := true, laidKinds := [.data, .pinned], laidTests := true, laidLooks := .later }
def HistoryKeepsCardSaid : Prop := Claim7.holds Tryz.pinned (.plain (OpenSpec.ofChange historyKeepsSpec)) historyKeepsCard

/-- THE TIED CARD OF 'pipelinelaw37.HistoryTurns'. -/
def historyTurnsCard : Claim7 := { stood := { row := historyTurnsRow, standIns := [], harness := (true, "6da398dc568ccca3592dad93efbead12d57425a31aeafa8e5970064782b13f04"), looks := false }, kinds := [], alts := [], laidByText := true, laidKinds := [.data, .pinned], laidTests := true, laidLooks := .later }
def HistoryTurnsCardSaid : Prop := Claim7.holds Tryz.pinned (.plain (OpenSpec.ofChange historyTurnsSpec)) historyTurnsCard

/-- THE TIED CARD OF 'pipelinelaw37.HistoryTimes'. -/
def historyTimesCard : Claim7 := { stood := { row := historyTimesRow, standIns := [], harness := (true, "6da398dc568ccca3592dad93efbead12d57425a31aeafa8e5970064782b13f04"), looks := false }, kinds := [], alts := [], laidByText := true, laidKinds := [.data, .pinned], laidTests := true, laidLooks := .later }
def HistoryTimesCardSaid : Prop := Claim7.holds Tryz.pinned (.plain (OpenSpec.ofChange historyTimesSpec)) historyTimesCard

/-- THE SECOND FORM's CARD OF 'pipelinelaw37.HistoryValid'. -/
def historyValidUptoCard : Claim7 := { stood := { row := historyValidUptoRow, standIns := [], harness := (true, "6da398dc568ccca3592dad93efbead12d57425a31aeafa8e5970064782b13f04"), looks := false }, kinds := [], alts := [], laidByText := true, laidKinds := [.data, .pinned], laidTests := true, laidLooks := .later }
def HistoryValidUptoCardSaid : Prop := Claim7.holds Tryz.pinned (.plain (OpenSpec.upto historyValidSpec)) historyValidUptoCard

/-- THE SECOND FORM's CARD OF 'pipelinelaw37.HistoryAdds'. -/
def historyAddsUptoCard : Claim7 := { stood := { row := historyAddsUptoRow, standIns := [], harness := (true, "6da398dc568ccca3592dad93efbead12d57425a31aeafa8e5970064782b13f04"), looks := false }, kinds := [], alts := [], laidByText := true, laidKinds := [.data, .pinned], laidTests := true, laidLooks := .later }
def HistoryAddsUptoCardSaid : Prop := Claim7.holds Tryz.pinned (.plain (OpenSpec.upto historyAddsSpec)) historyAddsUptoCard

/-- THE SECOND FORM's CARD OF 'pipelinelaw37.HistoryKeeps'. -/
def historyKeepsUptoCard : Claim7 := { stood := { row := historyKeepsUptoRow, standIns := [], harness := (true, "6da398dc568ccca3592dad93efbead12d57425a31aeafa8e5970064782b13f04"), looks := false }, kinds := [], alts := [], laidByText := true, laidKinds := [.data, .pinned], laidTests := true, laidLooks := .later }
def HistoryKeepsUptoCardSaid : Prop := Claim7.holds Tryz.pinned (.plain (OpenSpec.upto historyKeepsSpec)) historyKeepsUptoCard

/-- THE SECOND FORM's CARD OF 'pipelinelaw37.HistoryTurns'. -/
def historyTurnsUptoCard : Claim7 := { stood := { row := historyTurnsUptoRow, standIns := [], harness := (true, "6da398dc568ccca3592dad93efbead12d57425a31aeafa8e5970064782b13f04"), looks := false }, kinds := [], alts := [], laidByText := true, laidKinds := [.data, .pinned], laidTests := true, laidLooks := .later }
def HistoryTurnsUptoCardSaid : Prop := Claim7.holds Tryz.pinned (.plain (OpenSpec.upto historyTurnsSpec)) historyTurnsUptoCard

/-- THE SECOND FORM's CARD OF 'pipelinelaw37.HistoryTimes'. -/
def historyTimesUptoCard : Claim7 := { stood := { row := historyTimesUptoRow, standIns := [], harness := (true, "6da398dc568ccca3592dad93efbead12d57425a31aeafa8e5970064782b13f04"), looks := false }, kinds := [], alts := [], laidByText := true, laidKinds := [.data, .pinned], laidTests := true, laidLooks := .later }
def HistoryTimesUptoCardSaid : Prop := Claim7.holds Tryz.pinned (.plain (OpenSpec.upto historyTimesSpec)) historyTimesUptoCard
end Rows
end Go.Proofs.YtddepmelnemniaaGreatDoor
