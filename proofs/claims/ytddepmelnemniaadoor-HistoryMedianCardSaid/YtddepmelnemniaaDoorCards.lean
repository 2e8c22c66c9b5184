/-
  DERIVED. GIVEN WITH THE SEED: THE CARDS: each row of YtddepmelnemniaaDoorRows.lean that lists a variable, with what it lists TIED to the program's text (the seventh form; the later family's looks); each row that meets fmt, with fmt's text TOLD by the authors' own Lean function (tested against real Go, not proved from fmt's source: count such statements apart). THE CARD IS WHAT COUNTS. Prove the row's statement (the work); the ties are given (YtddepmelnemniaaDoorTie.lean); close each card by the builder's one call (the guide's Derived/Test/ToyasCard.lean, 'card_holds'). Laid BY PROGRAM, IN A SANDBOX (cutbox-door.mjs). By AI agents, Wed Nov 11 2026. No macro, syntax, notation, axiom, sorry.
-/
import Derived.Test.YtddepmelnemniaaDoorRows
import GoSem.ClaimSeven
namespace Go.Proofs.YtddepmelnemniaaDoor
namespace Rows

/-- THE TIED CARD OF 'pipelinelaw37.HistoryMedian'. -/
def historyMedianCard : Claim7 := { stood := { row := historyMedianRow, standIns := [], harness := (true, "acf701cd422b8dace9f43517201dc1d0689e101d500dde4b1fb597dd524c4519"), looks := false }, kinds := [], alts := [], laidByText := true, laidKinds := [.data, .pinned], laidTests := true, laidLooks := .later }
def HistoryMedianCardSaid : Prop := Claim7.holds Tryd.pinned (.plain (OpenSpec.ofChange historyMedianSpec)) historyMedianCard

/-- THE SECOND FORM's CARD OF 'pipelinelaw37.HistoryMedian'. -/
def historyMedianUptoCard : Claim7 := { stood := { row := historyMedianUptoRow, standIns := [], harness := (true, "acf701cd422b8dace9f43517201dc1d0689e101d500dde4b1fb597dd524c4519"), looks := false }, kinds := [], alts := [], laidByText := true, laidKinds := [.data, .pinned], laidTests := true, laidLooks := .later }
def HistoryMedianUptoCardSaid : Prop := Claim7.holds Tryd.pinned (.plain (OpenSpec.upto historyMedianSpec)) historyMedianUptoCard
end Rows
end Go.Proofs.YtddepmelnemniaaDoor
