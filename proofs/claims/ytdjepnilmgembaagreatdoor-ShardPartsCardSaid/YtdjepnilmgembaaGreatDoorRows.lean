/-
  NARROWER THAN 'FOR EVERY INPUT', by the rows' own cells (each row's printed sentence says how): ShardLoads: laid · ShardSplits: laid · ShardParts: laid · ShardCovers: laid · ShardTurns: laid.
  DERIVED. THE GIVEN ROWS OF THIS SEAT. 5 by the template 'for every input the law returns true; each argument reads behind the call as it read before'; 0 by the template 'total and deterministic' (their statements: YtdjepnilmgembaaGreatDoorTotals.lean).
  GIVEN WITH THE SEED: the statements are not yours to turn. If you find one false, say at which input.
  Laid BY PROGRAM, IN A SANDBOX (cutbox-rows.mjs): the forced cells as the released guide's own fill.sh prints them over the translation 59dc874a50905ad6… (all of the seat's roots in one cut). By AI agents, Wed Nov 11 2026. No macro, syntax, notation, axiom, sorry.
-/
import Derived.Test.YtdjepnilmgembaaGreatDoorChecked
import GoSem.PinnedTables
import GoSem.Claim
import GoSem.ClaimJoined
import GoSem.ClaimMapViews
import Derived.JoinedTies
import Derived.KernelRfl
namespace Go.Proofs.YtdjepnilmgembaaGreatDoor
/- THE CELL 'sum', in the pinned program and in every row, IS THE sha256 OF THE DUMP (.gsa) THAT YtdjepnilmgembaaGreatDoorProg.lean LOADS. Nothing in Lean hashes anything: it is a label: what it is worth is what the hold of that sum in a sandbox is worth. -/
noncomputable def Tryz.pinned : Pinned := { name := "ytdjepnilmgembaagreatdoor", sum := "59dc874a50905ad6e3b4d3321f6b226b42af5f16c28309d13592f4e7dbc6a9e9", checked := Tryz.checked }
namespace Rows
def none {H : Type} : Left H := { results := [], args := [] }

/- WHAT THE LISTED PACKAGE-LEVEL VARIABLES READ AS WHEN THE CALL BEGINS. Each datum BY PROGRAM (the guide's laid-datum.mjs) off the statement by which the dump's own 'gosem.cut.vars' lays the variable. In a bare row this is a premise. The card (YtdjepnilmgembaaGreatDoorCards.lean) ties it to the program's text. -/
def laid_unicode_utf8_acceptRanges {H : Type} : DataW H := .agg [.agg [.lit (.int .u8 128), .lit (.int .u8 191)], .agg [.lit (.int .u8 160), .lit (.int .u8 191)], .agg [.lit (.int .u8 128), .lit (.int .u8 159)], .agg [.lit (.int .u8 144), .lit (.int .u8 191)], .agg [.lit (.int .u8 128), .lit (.int .u8 143)], .agg [.lit (.int .u8 0), .lit (.int .u8 0)], .agg [.lit (.int .u8 0), .lit (.int .u8 0)], .agg [.lit (.int .u8 0), .lit (.int .u8 0)], .agg [.lit (.int .u8 0), .lit (.int .u8 0)], .agg [.lit (.int .u8 0), .lit (.int .u8 0)], .agg [.lit (.int .u8 0), .lit (.int .u8 0)], .agg [.lit (.int .u8 0), .lit (.int .u8 0)], .agg [.lit (.int .u8 0), .lit (.int .u8 0)], .agg [.lit (.int .u8 0), .lit (.int .u8 0)], .agg [.lit (.int .u8 0), .lit (.int .u8 0)], .agg [.lit (.int .u8 0), .lit (.int .u8 0)]]
/-- One of Go's own tables, pinned by name: the form's constant. -/
def laid_unicode_utf8_first : DataW Unit := Go.Pinned.utf8First

/-- 'pipelinelaw38.ShardLoads': WHATEVER THE INPUT: true; the input reads as it did. -/
def shardLoadsSpec : ChangeSpec := { name := "shardLoads", fn := fun _ => fun
  | [d1, d2] => { results := [.lit (.bool true)], args := [d1, d2] }
  | _ => none }
def shardLoadsRow : OpenClaim := { program := "ytdjepnilmgembaagreatdoor", sum := "59dc874a50905ad6e3b4d3321f6b226b42af5f16c28309d13592f4e7dbc6a9e9", func := "pipeline/pipelinelaw38.ShardLoads", spec := "shardLoads", inPlace := ["internal/bytealg.CountString", "internal/bytealg.IndexByteString", "internal/bytealg.IndexString"], unfollowed := true, recurses := true, named := ["unicode/utf8.first", "unicode/utf8.acceptRanges", "internal/bytealg.MaxLen"], apart := false, laid := [("unicode/utf8.acceptRanges", laid_unicode_utf8_acceptRanges), ("unicode/utf8.first", laid_unicode_utf8_first)] }
def ShardLoadsSaid : Prop := shardLoadsRow.holds Tryz.pinned (OpenSpec.ofChange shardLoadsSpec)

/-- ITS FALSE NEIGHBOUR: 'it returns false'. Refute it at one input. -/
def shardLoadsWrong : ChangeSpec := { name := "shardLoads", fn := fun _ => fun
  | [d1, d2] => { results := [.lit (.bool false)], args := [d1, d2] }
  | _ => none }
def ShardLoadsWrongFalsely : Prop := shardLoadsRow.holds Tryz.pinned (OpenSpec.ofChange shardLoadsWrong)

/-- 'pipelinelaw38.ShardSplits': WHATEVER THE INPUT: true; the input reads as it did. -/
def shardSplitsSpec : ChangeSpec := { name := "shardSplits", fn := fun _ => fun
  | [d1, d2, d3] => { results := [.lit (.bool true)], args := [d1, d2, d3] }
  | _ => none }
def shardSplitsRow : OpenClaim := { program := "ytdjepnilmgembaagreatdoor", sum := "59dc874a50905ad6e3b4d3321f6b226b42af5f16c28309d13592f4e7dbc6a9e9", func := "pipeline/pipelinelaw38.ShardSplits", spec := "shardSplits", inPlace := ["internal/bytealg.CountString", "internal/bytealg.IndexByteString", "internal/bytealg.IndexString"], unfollowed := true, recurses := true, named := ["unicode/utf8.first", "unicode/utf8.acceptRanges", "internal/bytealg.MaxLen"], apart := false, laid := [("unicode/utf8.acceptRanges", laid_unicode_utf8_acceptRanges), ("unicode/utf8.first", laid_unicode_utf8_first)] }
def ShardSplitsSaid : Prop := shardSplitsRow.holds Tryz.pinned (OpenSpec.ofChange shardSplitsSpec)

/-- ITS FALSE NEIGHBOUR: 'it returns false'. Refute it at one input. -/
def shardSplitsWrong : ChangeSpec := { name := "shardSplits", fn := fun _ => fun
  | [d1, d2, d3] => { results := [.lit (.bool false)], args := [d1, d2, d3] }
  | _ => none }
def ShardSplitsWrongFalsely : Prop := shardSplitsRow.holds Tryz.pinned (OpenSpec.ofChange shardSplitsWrong)

/-- 'pipelinelaw38.ShardParts': WHATEVER THE INPUT: true; the input reads as it did. -/
def shardPartsSpec : ChangeSpec := { name := "shardParts", fn := fun _ => fun
  | [d1, d2, d3] => { results := [.lit (.bool true)], args := [d1, d2, d3] }
  | _ => none }
def shardPartsRow : OpenClaim := { program := "ytdjepnilmgembaagreatdoor", sum := "59dc874a50905ad6e3b4d3321f6b226b42af5f16c28309d13592f4e7dbc6a9e9", func := "pipeline/pipelinelaw38.ShardParts", spec := "shardParts", inPlace := ["internal/bytealg.CountString", "internal/bytealg.IndexByteString", "internal/bytealg.IndexString"], unfollowed := true, recurses := true, named := ["unicode/utf8.first", "unicode/utf8.acceptRanges", "internal/bytealg.MaxLen"], apart := false, laid := [("unicode/utf8.acceptRanges", laid_unicode_utf8_acceptRanges), ("unicode/utf8.first", laid_unicode_utf8_first)] }
def ShardPartsSaid : Prop := shardPartsRow.holds Tryz.pinned (OpenSpec.ofChange shardPartsSpec)

/-- ITS FALSE NEIGHBOUR: 'it returns false'. Refute it at one input. -/
def shardPartsWrong : ChangeSpec := { name := "shardParts", fn := fun _ => fun
  | [d1, d2, d3] => { results := [.lit (.bool false)], args := [d1, d2, d3] }
  | _ => none }
def ShardPartsWrongFalsely : Prop := shardPartsRow.holds Tryz.pinned (OpenSpec.ofChange shardPartsWrong)

/-- 'pipelinelaw38.ShardCovers': WHATEVER THE INPUT: true; the input reads as it did. -/
def shardCoversSpec : ChangeSpec := { name := "shardCovers", fn := fun _ => fun
  | [d1, d2, d3] => { results := [.lit (.bool true)], args := [d1, d2, d3] }
  | _ => none }
def shardCoversRow : OpenClaim := { program := "ytdjepnilmgembaagreatdoor", sum := "59dc874a50905ad6e3b4d3321f6b226b42af5f16c28309d13592f4e7dbc6a9e9", func := "pipeline/pipelinelaw38.ShardCovers", spec := "shardCovers", inPlace := ["internal/bytealg.CountString", "internal/bytealg.IndexByteString", "internal/bytealg.IndexString"], unfollowed := true, recurses := true, named := ["unicode/utf8.first", "unicode/utf8.acceptRanges", "internal/bytealg.MaxLen"], apart := false, laid := [("unicode/utf8.acceptRanges", laid_unicode_utf8_acceptRanges), ("unicode/utf8.first", laid_unicode_utf8_first)] }
def ShardCoversSaid : Prop := shardCoversRow.holds Tryz.pinned (OpenSpec.ofChange shardCoversSpec)

/-- ITS FALSE NEIGHBOUR: 'it returns false'. Refute it at one input. -/
def shardCoversWrong : ChangeSpec := { name := "shardCovers", fn := fun _ => fun
  | [d1, d2, d3] => { results := [.lit (.bool false)], args := [d1, d2, d3] }
  | _ => none }
def ShardCoversWrongFalsely : Prop := shardCoversRow.holds Tryz.pinned (OpenSpec.ofChange shardCoversWrong)

/-- 'pipelinelaw38.ShardTurns': WHATEVER THE INPUT: true; the input reads as it did. -/
def shardTurnsSpec : ChangeSpec := { name := "shardTurns", fn := fun _ => fun
  | [d1, d2, d3] => { results := [.lit (.bool true)], args := [d1, d2, d3] }
  | _ => none }
def shardTurnsRow : OpenClaim := { program := "ytdjepnilmgembaagreatdoor", sum := "59dc874a50905ad6e3b4d3321f6b226b42af5f16c28309d13592f4e7dbc6a9e9", func := "pipeline/pipelinelaw38.ShardTurns", spec := "shardTurns", inPlace := ["internal/bytealg.CountString", "internal/bytealg.IndexByteString", "internal/bytealg.IndexString"], unfollowed := true, recurses := true, named := ["unicode/utf8.first", "unicode/utf8.acceptRanges", "internal/bytealg.MaxLen"], apart := false, laid := [("unicode/utf8.acceptRanges", laid_unicode_utf8_acceptRanges), ("unicode/utf8.first", laid_unicode_utf8_first)] }
def ShardTurnsSaid : Prop := shardTurnsRow.holds Tryz.pinned (OpenSpec.ofChange shardTurnsSpec)

/-- ITS FALSE NEIGHBOUR: 'it returns false'. Refute it at one input. -/
def shardTurnsWrong : ChangeSpec := { name := "shardTurns", fn := fun _ => fun
  | [d1, d2, d3] => { results := [.lit (.bool false)], args := [d1, d2, d3] }
  | _ => none }
def ShardTurnsWrongFalsely : Prop := shardTurnsRow.holds Tryz.pinned (OpenSpec.ofChange shardTurnsWrong)

/- THE SECOND FORM. 'bulk': how many values and letters a reading holds, each counted each time it is reached (what is shared counts as often as it is met; a slice's spare places count too). A statement '..UptoSaid' is the law's where the arguments, and the package variables that the reading takes, are together of bulk at most 1048576: NARROWER than '..Said'. Prove '..Said' where nothing that the law and all that it calls make is longer than what came in: it says more and counts as full. Else prove '..UptoSaid'. A law counts once. -/
mutual
def uptoBulk {H : Type} : DataW H → Nat
  | .lit (.string bytes) => bytes.length + 1
  | .lit _ => 1
  | .nil => 1
  | .ptr d => uptoBulk d + 1
  | .slice elems spare => uptoBulkAll elems + uptoBulkAll spare + 1
  | .agg parts => uptoBulkAll parts + 1
  | .iface _ d => uptoBulk d + 1
  | .map entries => uptoBulkEntries entries + 1
  | .held _ => 1
def uptoBulkAll {H : Type} : List (DataW H) → Nat
  | [] => 0
  | d :: r => uptoBulk d + uptoBulkAll r
def uptoBulkEntries {H : Type} : List (Lit × DataW H) → Nat
  | [] => 0
  | x :: r => uptoBulkEntry x + uptoBulkEntries r
def uptoBulkEntry {H : Type} : Lit × DataW H → Nat
  | (.string bytes, d) => bytes.length + uptoBulk d + 1
  | (_, d) => uptoBulk d + 1
 end
def uptoSmall : (H : Type) → List (DataW H) → Bool := fun _ ds => decide (uptoBulkAll ds ≤ 1048576)
def OpenSpec.upto (s : _root_.Go.ChangeSpec) : _root_.Go.OpenSpec := { _root_.Go.OpenSpec.ofChange s with cond := some uptoSmall }

/-- 'pipelinelaw38.ShardLoads', WHERE WHAT IT READS IS OF BULK AT MOST 1048576: true; the input reads as it did. -/
def shardLoadsUptoRow : OpenClaim := { program := "ytdjepnilmgembaagreatdoor", sum := "59dc874a50905ad6e3b4d3321f6b226b42af5f16c28309d13592f4e7dbc6a9e9", func := "pipeline/pipelinelaw38.ShardLoads", spec := "shardLoads", inPlace := ["internal/bytealg.CountString", "internal/bytealg.IndexByteString", "internal/bytealg.IndexString"], unfollowed := true, recurses := true, named := ["unicode/utf8.first", "unicode/utf8.acceptRanges", "internal/bytealg.MaxLen"], apart := false, laid := [("unicode/utf8.acceptRanges", laid_unicode_utf8_acceptRanges), ("unicode/utf8.first", laid_unicode_utf8_first)], narrowed := true }
def ShardLoadsUptoSaid : Prop := shardLoadsUptoRow.holds Tryz.pinned (OpenSpec.upto shardLoadsSpec)

/-- 'pipelinelaw38.ShardSplits', WHERE WHAT IT READS IS OF BULK AT MOST 1048576: true; the input reads as it did. -/
def shardSplitsUptoRow : OpenClaim := { program := "ytdjepnilmgembaagreatdoor", sum := "59dc874a50905ad6e3b4d3321f6b226b42af5f16c28309d13592f4e7dbc6a9e9", func := "pipeline/pipelinelaw38.ShardSplits", spec := "shardSplits", inPlace := ["internal/bytealg.CountString", "internal/bytealg.IndexByteString", "internal/bytealg.IndexString"], unfollowed := true, recurses := true, named := ["unicode/utf8.first", "unicode/utf8.acceptRanges", "internal/bytealg.MaxLen"], apart := false, laid := [("unicode/utf8.acceptRanges", laid_unicode_utf8_acceptRanges), ("unicode/utf8.first", laid_unicode_utf8_first)], narrowed := true }
def ShardSplitsUptoSaid : Prop := shardSplitsUptoRow.holds Tryz.pinned (OpenSpec.upto shardSplitsSpec)

/-- 'pipelinelaw38.ShardParts', WHERE WHAT IT READS IS OF BULK AT MOST 1048576: true; the input reads as it did. -/
def shardPartsUptoRow : OpenClaim := { program := "ytdjepnilmgembaagreatdoor", sum := "59dc874a50905ad6e3b4d3321f6b226b42af5f16c28309d13592f4e7dbc6a9e9", func := "pipeline/pipelinelaw38.ShardParts", spec := "shardParts", inPlace := ["internal/bytealg.CountString", "internal/bytealg.IndexByteString", "internal/bytealg.IndexString"], unfollowed := true, recurses := true, named := ["unicode/utf8.first", "unicode/utf8.acceptRanges", "internal/bytealg.MaxLen"], apart := false, laid := [("unicode/utf8.acceptRanges", laid_unicode_utf8_acceptRanges), ("unicode/utf8.first", laid_unicode_utf8_first)], narrowed := true }
def ShardPartsUptoSaid : Prop := shardPartsUptoRow.holds Tryz.pinned (OpenSpec.upto shardPartsSpec)

/-- 'pipelinelaw38.ShardCovers', WHERE WHAT IT READS IS OF BULK AT MOST 1048576: true; the input reads as it did. -/
def shardCoversUptoRow : OpenClaim := { program := "ytdjepnilmgembaagreatdoor", sum := "59dc874a50905ad6e3b4d3321f6b226b42af5f16c28309d13592f4e7dbc6a9e9", func := "pipeline/pipelinelaw38.ShardCovers", spec := "shardCovers", inPlace := ["internal/bytealg.CountString", "internal/bytealg.IndexByteString", "internal/bytealg.IndexString"], unfollowed := true, recurses := true, named := ["unicode/utf8.first", "unicode/utf8.acceptRanges", "internal/bytealg.MaxLen"], apart := false, laid := [("unicode/utf8.acceptRanges", laid_unicode_utf8_acceptRanges), ("unicode/utf8.first", laid_unicode_utf8_first)], narrowed := true }
def ShardCoversUptoSaid : Prop := shardCoversUptoRow.holds Tryz.pinned (OpenSpec.upto shardCoversSpec)

/-- 'pipelinelaw38.ShardTurns', WHERE WHAT IT READS IS OF BULK AT MOST 1048576: true; the input reads as it did. -/
def shardTurnsUptoRow : OpenClaim := { program := "ytdjepnilmgembaagreatdoor", sum := "59dc874a50905ad6e3b4d3321f6b226b42af5f16c28309d13592f4e7dbc6a9e9", func := "pipeline/pipelinelaw38.ShardTurns", spec := "shardTurns", inPlace := ["internal/bytealg.CountString", "internal/bytealg.IndexByteString", "internal/bytealg.IndexString"], unfollowed := true, recurses := true, named := ["unicode/utf8.first", "unicode/utf8.acceptRanges", "internal/bytealg.MaxLen"], apart := false, laid := [("unicode/utf8.acceptRanges", laid_unicode_utf8_acceptRanges), ("unicode/utf8.first", laid_unicode_utf8_first)], narrowed := true }
def ShardTurnsUptoSaid : Prop := shardTurnsUptoRow.holds Tryz.pinned (OpenSpec.upto shardTurnsSpec)

end Rows
end Go.Proofs.YtdjepnilmgembaaGreatDoor
