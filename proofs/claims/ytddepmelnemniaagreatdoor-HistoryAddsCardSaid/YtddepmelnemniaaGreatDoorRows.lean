/-
  NARROWER THAN 'FOR EVERY INPUT', by the rows' own cells (each row's printed sentence says how): HistoryValid: laid · HistoryAdds: laid · HistoryKeeps: laid · HistoryTurns: laid · HistoryTimes: laid.
  DERIVED. THE GIVEN ROWS OF THIS SEAT. 5 by the template 'for every input the law returns true; each argument reads behind the call as it read before'; 0 by the template 'total and deterministic' (their statements: YtddepmelnemniaaGreatDoorTotals.lean).
  GIVEN WITH THE SEED: the statements are not yours to turn. If you find one false, say at which input.
  Laid BY PROGRAM, IN A SANDBOX (cutbox-rows.mjs): the forced cells as the released guide's own fill.sh prints them over the translation b6ba06e40bb45ce0… (all of the seat's roots in one cut). By AI agents, Wed Nov 11 2026. No macro, syntax, notation, axiom, sorry.
-/
import Derived.Test.YtddepmelnemniaaGreatDoorChecked
import GoSem.PinnedTables
import GoSem.Claim
import GoSem.ClaimJoined
import GoSem.ClaimMapViews
import Derived.JoinedTies
import Derived.KernelRfl
namespace Go.Proofs.YtddepmelnemniaaGreatDoor
/- THE CELL 'sum', in the pinned program and in every row, IS THE sha256 OF THE DUMP (.gsa) THAT YtddepmelnemniaaGreatDoorProg.lean LOADS. Nothing in Lean hashes anything: it is a label: what it is worth is what the hold of that sum in a sandbox is worth. -/
noncomputable def Tryz.pinned : Pinned := { name := "ytddepmelnemniaagreatdoor", sum := "b6ba06e40bb45ce0eefc66b76e8b9f3e3067f15edd2dca9b0c671307056af22f", checked := Tryz.checked }
namespace Rows
def none {H : Type} : Left H := { results := [], args := [] }

/- WHAT THE LISTED PACKAGE-LEVEL VARIABLES READ AS WHEN THE CALL BEGINS. Each datum BY PROGRAM (the guide's laid-datum.mjs) off the statement by which the dump's own 'gosem.cut.vars' lays the variable. In a bare row this is a premise. The card (YtddepmelnemniaaGreatDoorCards.lean) ties it to the program's text. -/
def laid_unicode_utf8_acceptRanges {H : Type} : DataW H := .agg [.agg [.lit (.int .u8 128), .lit (.int .u8 191)], .agg [.lit (.int .u8 160), .lit (.int .u8 191)], .agg [.lit (.int .u8 128), .lit (.int .u8 159)], .agg [.lit (.int .u8 144), .lit (.int .u8 191)], .agg [.lit (.int .u8 128), .lit (.int .u8 143)], .agg [.lit (.int .u8 0), .lit (.int .u8 0)], .agg [.lit (.int .u8 0), .lit (.int .u8 0)], .agg [.lit (.int .u8 0), .lit (.int .u8 0)], .agg [.lit (.int .u8 0), .lit (.int .u8 0)], .agg [.lit (.int .u8 0), .lit (.int .u8 0)], .agg [.lit (.int .u8 0), .lit (.int .u8 0)], .agg [.lit (.int .u8 0), .lit (.int .u8 0)], .agg [.lit (.int .u8 0), .lit (.int .u8 0)], .agg [.lit (.int .u8 0), .lit (.int .u8 0)], .agg [.lit (.int .u8 0), .lit (.int .u8 0)], .agg [.lit (.int .u8 0), .lit (.int .u8 0)]]
/-- One of Go's own tables, pinned by name: the form's constant. -/
def laid_unicode_utf8_first : DataW Unit := Go.Pinned.utf8First

/-- 'pipelinelaw37.HistoryValid': WHATEVER THE INPUT: true; the input reads as it did. -/
def historyValidSpec : ChangeSpec := { name := "historyValid", fn := fun _ => fun
  | [d] => { results := [.lit (.bool true)], args := [d] }
  | _ => none }
def historyValidRow : OpenClaim := { program := "ytddepmelnemniaagreatdoor", sum := "b6ba06e40bb45ce0eefc66b76e8b9f3e3067f15edd2dca9b0c671307056af22f", func := "pipeline/pipelinelaw37.HistoryValid", spec := "historyValid", inPlace := ["internal/bytealg.CountString", "internal/bytealg.IndexByteString", "internal/bytealg.IndexString", "slices.overlaps[pipeline/api.TestHistory]"], unfollowed := true, recurses := true, named := ["unicode/utf8.first", "unicode/utf8.acceptRanges", "internal/bytealg.MaxLen"], apart := false, laid := [("unicode/utf8.acceptRanges", laid_unicode_utf8_acceptRanges), ("unicode/utf8.first", laid_unicode_utf8_first)] }
def HistoryValidSaid : Prop := historyValidRow.holds Tryz.pinned (OpenSpec.ofChange historyValidSpec)

/-- ITS FALSE NEIGHBOUR: 'it returns false'. Refute it at one input. -/
def historyValidWrong : ChangeSpec := { name := "historyValid", fn := fun _ => fun
  | [d] => { results := [.lit (.bool false)], args := [d] }
  | _ => none }
def HistoryValidWrongFalsely : Prop := historyValidRow.holds Tryz.pinned (OpenSpec.ofChange historyValidWrong)

/-- 'pipelinelaw37.HistoryAdds': WHATEVER THE INPUT: true; the input reads as it did. -/
def historyAddsSpec : ChangeSpec := { name := "historyAdds", fn := fun _ => fun
  | [d1, d2, d3] => { results := [.lit (.bool true)], args := [d1, d2, d3] }
  | _ => none }
def historyAddsRow : OpenClaim := { program := "ytddepmelnemniaagreatdoor", sum := "b6ba06e40bb45ce0eefc66b76e8b9f3e3067f15edd2dca9b0c671307056af22f", func := "pipeline/pipelinelaw37.HistoryAdds", spec := "historyAdds", inPlace := ["internal/bytealg.CountString", "internal/bytealg.IndexByteString", "internal/bytealg.IndexString", "slices.overlaps[pipeline/api.TestHistory]"], unfollowed := true, recurses := true, named := ["unicode/utf8.first", "unicode/utf8.acceptRanges", "internal/bytealg.MaxLen"], apart := false, laid := [("unicode/utf8.acceptRanges", laid_unicode_utf8_acceptRanges), ("unicode/utf8.first", laid_unicode_utf8_first)] }
def HistoryAddsSaid : Prop := historyAddsRow.holds Tryz.pinned (OpenSpec.ofChange historyAddsSpec)

/-- ITS FALSE NEIGHBOUR: 'it returns false'. Refute it at one input. -/
def historyAddsWrong : ChangeSpec := { name := "historyAdds", fn := fun _ => fun
  | [d1, d2, d3] => { results := [.lit (.bool false)], args := [d1, d2, d3] }
  | _ => none }
def HistoryAddsWrongFalsely : Prop := historyAddsRow.holds Tryz.pinned (OpenSpec.ofChange historyAddsWrong)

/-- 'pipelinelaw37.HistoryKeeps': WHATEVER THE INPUT: true; the input reads as it did. -/
def historyKeepsSpec : ChangeSpec := { name := "historyKeeps", fn := fun _ => fun
  | [d1, d2, d3] => { results := [.lit (.bool true)], args := [d1, d2, d3] }
  | _ => none }
def historyKeepsRow : OpenClaim := { program := "ytddepmelnemniaagreatdoor", sum := "b6ba06e40bb45ce0eefc66b76e8b9f3e3067f15edd2dca9b0c671307056af22f", func := "pipeline/pipelinelaw37.HistoryKeeps", spec := "historyKeeps", inPlace := ["internal/bytealg.CountString", "internal/bytealg.IndexByteString", "internal/bytealg.IndexString", "slices.overlaps[pipeline/api.TestHistory]"], unfollowed := true, recurses := true, named := ["unicode/utf8.first", "unicode/utf8.acceptRanges", "internal/bytealg.MaxLen"], apart := false, laid := [("unicode/utf8.acceptRanges", laid_unicode_utf8_acceptRanges), ("unicode/utf8.first", laid_unicode_utf8_first)] }
def HistoryKeepsSaid : Prop := historyKeepsRow.holds Tryz.pinned (OpenSpec.ofChange historyKeepsSpec)

/-- ITS FALSE NEIGHBOUR: 'it returns false'. Refute it at one input. -/
def historyKeepsWrong : ChangeSpec := { name := "historyKeeps", fn := fun _ => fun
  | [d1, d2, d3] => { results := [.lit (.bool false)], args := [d1, d2, d3] }
  | _ => none }
def HistoryKeepsWrongFalsely : Prop := historyKeepsRow.holds Tryz.pinned (OpenSpec.ofChange historyKeepsWrong)

/-- 'pipelinelaw37.HistoryTurns': WHATEVER THE INPUT: true; the input reads as it did. -/
def historyTurnsSpec : ChangeSpec := { name := "historyTurns", fn := fun _ => fun
  | [d1, d2, d3] => { results := [.lit (.bool true)], args := [d1, d2, d3] }
  | _ => none }
def historyTurnsRow : OpenClaim := { program := "ytddepmelnemniaagreatdoor", sum := "b6ba06e40bb45ce0eefc66b76e8b9f3e3067f15edd2dca9b0c671307056af22f", func := "pipeline/pipelinelaw37.HistoryTurns", spec := "historyTurns", inPlace := ["internal/bytealg.CountString", "internal/bytealg.IndexByteString", "internal/bytealg.IndexString", "slices.overlaps[pipeline/api.TestHistory]"], unfollowed := true, recurses := true, named := ["unicode/utf8.first", "unicode/utf8.acceptRanges", "internal/bytealg.MaxLen"], apart := false, laid := [("unicode/utf8.acceptRanges", laid_unicode_utf8_acceptRanges), ("unicode/utf8.first", laid_unicode_utf8_first)] }
def HistoryTurnsSaid : Prop := historyTurnsRow.holds Tryz.pinned (OpenSpec.ofChange historyTurnsSpec)

/-- ITS FALSE NEIGHBOUR: 'it returns false'. Refute it at one input. -/
def historyTurnsWrong : ChangeSpec := { name := "historyTurns", fn := fun _ => fun
  | [d1, d2, d3] => { results := [.lit (.bool false)], args := [d1, d2, d3] }
  | _ => none }
def HistoryTurnsWrongFalsely : Prop := historyTurnsRow.holds Tryz.pinned (OpenSpec.ofChange historyTurnsWrong)

/-- 'pipelinelaw37.HistoryTimes': WHATEVER THE INPUT: true; the input reads as it did. -/
def historyTimesSpec : ChangeSpec := { name := "historyTimes", fn := fun _ => fun
  | [d1, d2] => { results := [.lit (.bool true)], args := [d1, d2] }
  | _ => none }
def historyTimesRow : OpenClaim := { program := "ytddepmelnemniaagreatdoor", sum := "b6ba06e40bb45ce0eefc66b76e8b9f3e3067f15edd2dca9b0c671307056af22f", func := "pipeline/pipelinelaw37.HistoryTimes", spec := "historyTimes", inPlace := ["internal/bytealg.CountString", "internal/bytealg.IndexByteString", "internal/bytealg.IndexString", "slices.overlaps[pipeline/api.TestHistory]"], unfollowed := true, recurses := true, named := ["unicode/utf8.first", "unicode/utf8.acceptRanges", "internal/bytealg.MaxLen"], apart := false, laid := [("unicode/utf8.acceptRanges", laid_unicode_utf8_acceptRanges), ("unicode/utf8.first", laid_unicode_utf8_first)] }
def HistoryTimesSaid : Prop := historyTimesRow.holds Tryz.pinned (OpenSpec.ofChange historyTimesSpec)

/-- ITS FALSE NEIGHBOUR: 'it returns false'. Refute it at one input. -/
def historyTimesWrong : ChangeSpec := { name := "historyTimes", fn := fun _ => fun
  | [d1, d2] => { results := [.lit (.bool false)], args := [d1, d2] }
  | _ => none }
def HistoryTimesWrongFalsely : Prop := historyTimesRow.holds Tryz.pinned (OpenSpec.ofChange historyTimesWrong)

/- THE SECOND FORM. 'bulk': how many values and letters a reading holds, each counted each time it is reached (what is shared counts as often as it is met; a slice's spare places count too). A statement '..UptoSaid' is the law's where the arguments, and the package variables that the reading takes, are together of bulk at most 1048576: NARROWER than '..Said'. Prove '..Said' where nothing that the law and all that it calls make is longer than what came in: it says more and counts as full. Else prove '..UptoSaid'. A law counts once. -/
mutual
def uptoBulk {H : Type} : DataW H → Nat
  | .lit (.string bytes) => bytes.length + 1
  | .lit _ => 1
  | .nil => 1
  | .ptr d => uptoBulk d + 1
  | .slice elems spare => uptoBulkAll elems + uptoBulkAll spare + 1
  | .agg parts => uptoBulkAll parts + 1
  | .iface _ d => uptoBulk d + 1
  | .map entries => uptoBulkEntries entries + 1
  | .held _ => 1
def uptoBulkAll {H : Type} : List (DataW H) → Nat
  | [] => 0
  | d :: r => uptoBulk d + uptoBulkAll r
def uptoBulkEntries {H : Type} : List (Lit × DataW H) → Nat
  | [] => 0
  | x :: r => uptoBulkEntry x + uptoBulkEntries r
def uptoBulkEntry {H : Type} : Lit × DataW H → Nat
  | (.string bytes, d) => bytes.length + uptoBulk d + 1
  | (_, d) => uptoBulk d + 1
 end
def uptoSmall : (H : Type) → List (DataW H) → Bool := fun _ ds => decide (uptoBulkAll ds ≤ 1048576)
def OpenSpec.upto (s : _root_.Go.ChangeSpec) : _root_.Go.OpenSpec := { _root_.Go.OpenSpec.ofChange s with cond := some uptoSmall }

/-- 'pipelinelaw37.HistoryValid', WHERE WHAT IT READS IS OF BULK AT MOST 1048576: true; the input reads as it did. -/
def historyValidUptoRow : OpenClaim := { program := "ytddepmelnemniaagreatdoor", sum := "b6ba06e40bb45ce0eefc66b76e8b9f3e3067f15edd2dca9b0c671307056af22f", func := "pipeline/pipelinelaw37.HistoryValid", spec := "historyValid", inPlace := ["internal/bytealg.CountString", "internal/bytealg.IndexByteString", "internal/bytealg.IndexString", "slices.overlaps[pipeline/api.TestHistory]"], unfollowed := true, recurses := true, named := ["unicode/utf8.first", "unicode/utf8.acceptRanges", "internal/bytealg.MaxLen"], apart := false, laid := [("unicode/utf8.acceptRanges", laid_unicode_utf8_acceptRanges), ("unicode/utf8.first", laid_unicode_utf8_first)], narrowed := true }
def HistoryValidUptoSaid : Prop := historyValidUptoRow.holds Tryz.pinned (OpenSpec.upto historyValidSpec)

/-- 'pipelinelaw37.HistoryAdds', WHERE WHAT IT READS IS OF BULK AT MOST 1048576: true; the input reads as it did. -/
def historyAddsUptoRow : OpenClaim := { program := "ytddepmelnemniaagreatdoor", sum := "b6ba06e40bb45ce0eefc66b76e8b9f3e3067f15edd2dca9b0c671307056af22f", func := "pipeline/pipelinelaw37.HistoryAdds", spec := "historyAdds", inPlace := ["internal/bytealg.CountString", "internal/bytealg.IndexByteString", "internal/bytealg.IndexString", "slices.overlaps[pipeline/api.TestHistory]"], unfollowed := true, recurses := true, named := ["unicode/utf8.first", "unicode/utf8.acceptRanges", "internal/bytealg.MaxLen"], apart := false, laid := [("unicode/utf8.acceptRanges", laid_unicode_utf8_acceptRanges), ("unicode/utf8.first", laid_unicode_utf8_first)], narrowed := true }
def HistoryAddsUptoSaid : Prop := historyAddsUptoRow.holds Tryz.pinned (OpenSpec.upto historyAddsSpec)

/-- 'pipelinelaw37.HistoryKeeps', WHERE WHAT IT READS IS OF BULK AT MOST 1048576: true; the input reads as it did. -/
def historyKeepsUptoRow : OpenClaim := { program := "ytddepmelnemniaagreatdoor", sum := "b6ba06e40bb45ce0eefc66b76e8b9f3e3067f15edd2dca9b0c671307056af22f", func := "pipeline/pipelinelaw37.HistoryKeeps", spec := "historyKeeps", inPlace := ["internal/bytealg.CountString", "internal/bytealg.IndexByteString", "internal/bytealg.IndexString", "slices.overlaps[pipeline/api.TestHistory]"], unfollowed := true, recurses := true, named := ["unicode/utf8.first", "unicode/utf8.acceptRanges", "internal/bytealg.MaxLen"], apart := false, laid := [("unicode/utf8.acceptRanges", laid_unicode_utf8_acceptRanges), ("unicode/utf8.first", laid_unicode_utf8_first)], narrowed := true }
def HistoryKeepsUptoSaid : Prop := historyKeepsUptoRow.holds Tryz.pinned (OpenSpec.upto historyKeepsSpec)

/-- 'pipelinelaw37.HistoryTurns', WHERE WHAT IT READS IS OF BULK AT MOST 1048576: true; the input reads as it did. -/
def historyTurnsUptoRow : OpenClaim := { program := "ytddepmelnemniaagreatdoor", sum := "b6ba06e40bb45ce0eefc66b76e8b9f3e3067f15edd2dca9b0c671307056af22f", func := "pipeline/pipelinelaw37.HistoryTurns", spec := "historyTurns", inPlace := ["internal/bytealg.CountString", "internal/bytealg.IndexByteString", "internal/bytealg.IndexString", "slices.overlaps[pipeline/api.TestHistory]"], unfollowed := true, recurses := true, named := ["unicode/utf8.first", "unicode/utf8.acceptRanges", "internal/bytealg.MaxLen"], apart := false, laid := [("unicode/utf8.acceptRanges", laid_unicode_utf8_acceptRanges), ("unicode/utf8.first", laid_unicode_utf8_first)], narrowed := true }
def HistoryTurnsUptoSaid : Prop := historyTurnsUptoRow.holds Tryz.pinned (OpenSpec.upto historyTurnsSpec)

/-- 'pipelinelaw37.HistoryTimes', WHERE WHAT IT READS IS OF BULK AT MOST 1048576: true; the input reads as it did. -/
def historyTimesUptoRow : OpenClaim := { program := "ytddepmelnemniaagreatdoor", sum := "b6ba06e40bb45ce0eefc66b76e8b9f3e3067f15edd2dca9b0c671307056af22f", func := "pipeline/pipelinelaw37.HistoryTimes", spec := "historyTimes", inPlace := ["internal/bytealg.CountString", "internal/bytealg.IndexByteString", "internal/bytealg.IndexString", "slices.overlaps[pipeline/api.TestHistory]"], unfollowed := true, recurses := true, named := ["unicode/utf8.first", "unicode/utf8.acceptRanges", "internal/bytealg.MaxLen"], apart := false, laid := [("unicode/utf8.acceptRanges", laid_unicode_utf8_acceptRanges), ("unicode/utf8.first", laid_unicode_utf8_first)], narrowed := true }
def HistoryTimesUptoSaid : Prop := historyTimesUptoRow.holds Tryz.pinned (OpenSpec.upto historyTimesSpec)

end Rows
end Go.Proofs.YtddepmelnemniaaGreatDoor
