/-
  DERIVED. GIVEN WITH THE SEED: THE CARDS: each row of YtnahbfmbmpoljaaDoorRows.lean that lists a variable, with what it lists TIED to the program's text (the seventh form; the later family's looks); each row that meets fmt, with fmt's text TOLD by the authors' own Lean function (tested against real Go, not proved from fmt's source: count such statements apart). THE CARD IS WHAT COUNTS. Prove the row's statement (the work); the ties are given (YtnahbfmbmpoljaaDoorTie.lean); close each card by the builder's one call (the guide's Derived/Test/ToyasCard.lean, 'card_holds'). Laid BY PROGRAM, IN A SANDBOX (cutbox-door.mjs). By AI agents, Wed Nov 11 2026. No macro, syntax, notation, axiom, sorry.
-/
import Derived.Test.YtnahbfmbmpoljaaDoorRows
import GoSem.ClaimSeven
namespace Go.Proofs.YtnahbfmbmpoljaaDoor
namespace Rows

/-- THE TIED CARD OF 'pipelinelaw28.WorkerValid'. -/
def workerValidCard : Claim7 := { stood := { row := workerValidRow, standIns := [], harness := (true, "33daa443718ae03a991c3fa98e6d40af1f19cba7397ba1e6de5b9c514b29a343"), looks := false }, kinds := [], alts := [], laidByText := true, laidKinds := [.data, .pinned], laidTests := true, laidLooks := .later }
def WorkerValidCardSaid : Prop := Claim7.holds Tryd.pinned (.plain (OpenSpec.ofChange workerValidSpec)) workerValidCard

/-- THE TIED CARD OF 'pipelinelaw28.WorkerJoins'. -/
def workerJoinsCard : Claim7 := { stood := { row := workerJoinsRow, standIns := [], harness := (true, "33daa443718ae03a991c3fa98e6d40af1f19cba7397ba1e6de5b9c514b29a343"), looks := false }, kinds := [], alts := [], laidByText := true, laidKinds := [.data, .pinned], laidTests := true, laidLooks := .later }
def WorkerJoinsCardSaid : Prop := Claim7.holds Tryd.pinned (.plain (OpenSpec.ofChange workerJoinsSpec)) workerJoinsCard

/-- THE TIED CARD OF 'pipelinelaw28.WorkerMany'. -/
def workerManyCard : Claim7 := { stood := { row := workerManyRow, standIns := [], harness := (true, "33daa443718ae03a991c3fa98e6d40af1f19cba7397ba1e6de5b9c514b29a343"), looks := false }, kinds := [], alts := [], laidByText := true, laidKinds := [.data, .pinned], laidTests := true, laidLooks := .later }
def WorkerManyCardSaid : Prop := Claim7.holds Tryd.pinned (.plain (OpenSpec.ofChange workerManySpec)) workerManyCard

/-- THE TIED CARD OF 'pipelinelaw28.WorkerSteps'. -/
def workerStepsCard : Claim7 := { stood := { row := workerStepsRow, standIns := [], harness := (true, "33daa443718ae03a991c3fa98e6d40af1f19cba7397ba1e6de5b9c514b29a343"), looks := false }, kinds := [], alts := [], laidByText := true, laidKinds := [.data, .pinned], laidTests := true, laidLooks := .later }
def WorkerStepsCardSaid : Prop := Claim7.holds Tryd.pinned (.plain (OpenSpec.ofChange workerStepsSpec)) workerStepsCard

/-- THE TIED CARD OF 'pipelinelaw28.WorkerLooks'. -/
def workerLooksCard : Claim7 := { stood := { row := workerLooksRow, standIns := [], harness := (true, "33daa443718ae03a991c3fa98e6d40af1f19cba7397ba1e6de5b9c514b29a343"), looks := false }, kinds := [], alts := [], laidByText := true, laidKinds := [.data, .pinned], laidTests := true, laidLooks := .later }
def WorkerLooksCardSaid : Prop := Claim7.holds Tryd.pinned (.plain (OpenSpec.ofChange workerLooksSpec)) workerLooksCard

/-- THE TIED CARD OF 'pipelinelaw28.WorkerPlays'. -/
def workerPlaysCard : Claim7 := { stood := { row := workerPlaysRow, standIns := [], harness := (true, "33daa443718ae03a991c3fa98e6d40af1f19cba7397ba1e6de5b9c514b29a343"), looks := false }, kinds := [], alts := [], laidByText := true, laidKinds := [.data, .pinned], laidTests := true, laidLooks := .later }
def WorkerPlaysCardSaid : Prop := Claim7.holds Tryd.pinned (.plain (OpenSpec.ofChange workerPlaysSpec)) workerPlaysCard

/-- THE SECOND FORM's CARD OF 'pipelinelaw28.WorkerValid'. -/
def workerValidUptoCard : Claim7 := { stood := { row := workerValidUptoRow, standIns := [], harness := (true, "33daa443718ae03a991c3fa98e6d40af1f19cba7397ba1e6de5b9c514b29a343"), looks := false }, kinds := [], alts := [], laidByText := true, laidKinds := [.data, .pinned], laidTests := true, laidLooks := .later }
def WorkerValidUptoCardSaid : Prop := Claim7.holds Tryd.pinned (.plain (OpenSpec.upto workerValidSpec)) workerValidUptoCard

/-- THE SECOND FORM's CARD OF 'pipelinelaw28.WorkerJoins'. -/
def workerJoinsUptoCard : Claim7 := { stood := { row := workerJoinsUptoRow, standIns := [], harness := (true, "33daa443718ae03a991c3fa98e6d40af1f19cba7397ba1e6de5b9c514b29a343"), looks := false }, kinds := [], alts := [], laidByText := true, laidKinds := [.data, .pinned], laidTests := true, laidLooks := .later }
def WorkerJoinsUptoCardSaid : Prop := Claim7.holds Tryd.pinned (.plain (OpenSpec.upto workerJoinsSpec)) workerJoinsUptoCard

/-- THE SECOND FORM's CARD OF 'pipelinelaw28.WorkerMany'. -/
def workerManyUptoCard : Claim7 := { stood := { row := workerManyUptoRow, standIns := [], harness := (true, "33daa443718ae03a991c3fa98e6d40af1f19cba7397ba1e6de5b9c514b29a343"), looks := false }, kinds := [], alts := [], laidByText := true, laidKinds := [.data, .pinned], laidTests := true, laidLooks := .later }
def WorkerManyUptoCardSaid : Prop := Claim7.holds Tryd.pinned (.plain (OpenSpec.upto workerManySpec)) workerManyUptoCard

/-- THE SECOND FORM's CARD OF 'pipelinelaw28.WorkerSteps'. -/
def workerStepsUptoCard : Claim7 := { stood := { row := workerStepsUptoRow, standIns := [], harness := (true, "33daa443718ae03a991c3fa98e6d40af1f19cba7397ba1e6de5b9c514b29a343"), looks := false }, kinds := [], alts := [], laidByText := true, laidKinds := [.data, .pinned], laidTests := true, laidLooks := .later }
def WorkerStepsUptoCardSaid : Prop := Claim7.holds Tryd.pinned (.plain (OpenSpec.upto workerStepsSpec)) workerStepsUptoCard

/-- THE SECOND FORM's CARD OF 'pipelinelaw28.WorkerLooks'. -/
def workerLooksUptoCard : Claim7 := { stood := { row := workerLooksUptoRow, standIns := [], harness := (true, "33daa443718ae03a991c3fa98e6d40af1f19cba7397ba1e6de5b9c514b29a343"), looks := false }, kinds := [], alts := [], laidByText := true, laidKinds := [.data, .pinned], laidTests := true, laidLooks := .later }
def WorkerLooksUptoCardSaid : Prop := Claim7.holds Tryd.pinned (.plain (OpenSpec.upto workerLooksSpec)) workerLooksUptoCard

/-- THE SECOND FORM's CARD OF 'pipelinelaw28.WorkerPlays'. -/
def workerPlaysUptoCard : Claim7 := { stood := { row := workerPlaysUptoRow, standIns := [], harness := (true, "33daa443718ae03a991c3fa98e6d40af1f19cba7397ba1e6de5b9c514b29a343"), looks := false }, kinds := [], alts := [], laidByText := true, laidKinds := [.data, .pinned], laidTests := true, laidLooks := .later }
def WorkerPlaysUptoCardSaid : Prop := Claim7.holds Tryd.pinned (.plain (OpenSpec.upto workerPlaysSpec)) workerPlaysUptoCard
end Rows
end Go.Proofs.YtnahbfmbmpoljaaDoor
