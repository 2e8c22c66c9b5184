/-
  NARROWER THAN 'FOR EVERY INPUT', by the rows' own cells (each row's printed sentence says how): QueuePush: laid · QueueFull: laid · QueueRanks: laid · QueueOrder: laid · QueueShuffles: laid · QueueAges: laid · QueueRemove: laid · QueueProjects: laid.
  DERIVED. THE GIVEN ROWS OF THIS SEAT. 8 by the template 'for every input the law returns true; each argument reads behind the call as it read before'; 0 by the template 'total and deterministic' (their statements: YtnhfbignnnicnaaDoorTotals.lean).
  GIVEN WITH THE SEED: the statements are not yours to turn. If you find one false, say at which input.
  Laid BY PROGRAM, IN A SANDBOX (cutbox-rows.mjs): the forced cells as the released guide's own fill.sh prints them over the translation 0f25ee44954bcd6f… (all of the seat's roots in one cut). By AI agents, Wed Nov 11 2026. No macro, syntax, notation, axiom, sorry.
-/
import Derived.Test.YtnhfbignnnicnaaDoorChecked
import GoSem.PinnedTables
import GoSem.Claim
import GoSem.ClaimJoined
import GoSem.ClaimMapViews
import Derived.JoinedTies
import Derived.KernelRfl
namespace Go.Proofs.YtnhfbignnnicnaaDoor
/- THE CELL 'sum', in the pinned program and in every row, IS THE sha256 OF THE DUMP (.gsa) THAT YtnhfbignnnicnaaDoorProg.lean LOADS. Nothing in Lean hashes anything: it is a label: what it is worth is what the hold of that sum in a sandbox is worth. -/
noncomputable def Tryd.pinned : Pinned := { name := "ytnhfbignnnicnaadoor", sum := "0f25ee44954bcd6febeea63ee02e8eb8307d225b63bbcdaa53367321f4034ea0", checked := Tryd.checked }
namespace Rows
def none {H : Type} : Left H := { results := [], args := [] }

/- WHAT THE LISTED PACKAGE-LEVEL VARIABLES READ AS WHEN THE CALL BEGINS. Each datum BY PROGRAM (the guide's laid-datum.mjs) off the statement by which the dump's own 'gosem.cut.vars' lays the variable. In a bare row this is a premise. The card (YtnhfbignnnicnaaDoorCards.lean) ties it to the program's text. -/
def laid_unicode_utf8_acceptRanges {H : Type} : DataW H := .agg [.agg [.lit (.int .u8 128), .lit (.int .u8 191)], .agg [.lit (.int .u8 160), .lit (.int .u8 191)], .agg [.lit (.int .u8 128), .lit (.int .u8 159)], .agg [.lit (.int .u8 144), .lit (.int .u8 191)], .agg [.lit (.int .u8 128), .lit (.int .u8 143)], .agg [.lit (.int .u8 0), .lit (.int .u8 0)], .agg [.lit (.int .u8 0), .lit (.int .u8 0)], .agg [.lit (.int .u8 0), .lit (.int .u8 0)], .agg [.lit (.int .u8 0), .lit (.int .u8 0)], .agg [.lit (.int .u8 0), .lit (.int .u8 0)], .agg [.lit (.int .u8 0), .lit (.int .u8 0)], .agg [.lit (.int .u8 0), .lit (.int .u8 0)], .agg [.lit (.int .u8 0), .lit (.int .u8 0)], .agg [.lit (.int .u8 0), .lit (.int .u8 0)], .agg [.lit (.int .u8 0), .lit (.int .u8 0)], .agg [.lit (.int .u8 0), .lit (.int .u8 0)]]
/-- One of Go's own tables, pinned by name: the form's constant. -/
def laid_unicode_utf8_first : DataW Unit := Go.Pinned.utf8First

/-- 'pipelinelaw25.QueuePush': WHATEVER THE INPUT: true; the input reads as it did. -/
def queuePushSpec : ChangeSpec := { name := "queuePush", fn := fun _ => fun
  | [d1, d2] => { results := [.lit (.bool true)], args := [d1, d2] }
  | _ => none }
def queuePushRow : OpenClaim := { program := "ytnhfbignnnicnaadoor", sum := "0f25ee44954bcd6febeea63ee02e8eb8307d225b63bbcdaa53367321f4034ea0", func := "pipeline/pipelinelaw25.QueuePush", spec := "queuePush", inPlace := ["internal/bytealg.IndexByteString", "internal/bytealg.IndexString"], unfollowed := true, recurses := true, named := ["unicode/utf8.first", "unicode/utf8.acceptRanges", "internal/bytealg.MaxLen"], apart := false, laid := [("unicode/utf8.acceptRanges", laid_unicode_utf8_acceptRanges), ("unicode/utf8.first", laid_unicode_utf8_first)] }
def QueuePushSaid : Prop := queuePushRow.holds Tryd.pinned (OpenSpec.ofChange queuePushSpec)

/-- ITS FALSE NEIGHBOUR: 'it returns false'. Refute it at one input. -/
def queuePushWrong : ChangeSpec := { name := "queuePush", fn := fun _ => fun
  | [d1, d2] => { results := [.lit (.bool false)], args := [d1, d2] }
  | _ => none }
def QueuePushWrongFalsely : Prop := queuePushRow.holds Tryd.pinned (OpenSpec.ofChange queuePushWrong)

/-- 'pipelinelaw25.QueueFull': WHATEVER THE INPUT: true; the input reads as it did. -/
def queueFullSpec : ChangeSpec := { name := "queueFull", fn := fun _ => fun
  | [d] => { results := [.lit (.bool true)], args := [d] }
  | _ => none }
def queueFullRow : OpenClaim := { program := "ytnhfbignnnicnaadoor", sum := "0f25ee44954bcd6febeea63ee02e8eb8307d225b63bbcdaa53367321f4034ea0", func := "pipeline/pipelinelaw25.QueueFull", spec := "queueFull", inPlace := ["internal/bytealg.IndexByteString", "internal/bytealg.IndexString"], unfollowed := true, recurses := true, named := ["unicode/utf8.first", "unicode/utf8.acceptRanges", "internal/bytealg.MaxLen"], apart := false, laid := [("unicode/utf8.acceptRanges", laid_unicode_utf8_acceptRanges), ("unicode/utf8.first", laid_unicode_utf8_first)] }
def QueueFullSaid : Prop := queueFullRow.holds Tryd.pinned (OpenSpec.ofChange queueFullSpec)

/-- ITS FALSE NEIGHBOUR: 'it returns false'. Refute it at one input. -/
def queueFullWrong : ChangeSpec := { name := "queueFull", fn := fun _ => fun
  | [d] => { results := [.lit (.bool false)], args := [d] }
  | _ => none }
def QueueFullWrongFalsely : Prop := queueFullRow.holds Tryd.pinned (OpenSpec.ofChange queueFullWrong)

/-- 'pipelinelaw25.QueueRanks': WHATEVER THE INPUT: true; the input reads as it did. -/
def queueRanksSpec : ChangeSpec := { name := "queueRanks", fn := fun _ => fun
  | [d1, d2, d3] => { results := [.lit (.bool true)], args := [d1, d2, d3] }
  | _ => none }
def queueRanksRow : OpenClaim := { program := "ytnhfbignnnicnaadoor", sum := "0f25ee44954bcd6febeea63ee02e8eb8307d225b63bbcdaa53367321f4034ea0", func := "pipeline/pipelinelaw25.QueueRanks", spec := "queueRanks", inPlace := ["internal/bytealg.IndexByteString", "internal/bytealg.IndexString"], unfollowed := true, recurses := true, named := ["unicode/utf8.first", "unicode/utf8.acceptRanges", "internal/bytealg.MaxLen"], apart := false, laid := [("unicode/utf8.acceptRanges", laid_unicode_utf8_acceptRanges), ("unicode/utf8.first", laid_unicode_utf8_first)] }
def QueueRanksSaid : Prop := queueRanksRow.holds Tryd.pinned (OpenSpec.ofChange queueRanksSpec)

/-- ITS FALSE NEIGHBOUR: 'it returns false'. Refute it at one input. -/
def queueRanksWrong : ChangeSpec := { name := "queueRanks", fn := fun _ => fun
  | [d1, d2, d3] => { results := [.lit (.bool false)], args := [d1, d2, d3] }
  | _ => none }
def QueueRanksWrongFalsely : Prop := queueRanksRow.holds Tryd.pinned (OpenSpec.ofChange queueRanksWrong)

/-- 'pipelinelaw25.QueueOrder': WHATEVER THE INPUT: true; the input reads as it did. -/
def queueOrderSpec : ChangeSpec := { name := "queueOrder", fn := fun _ => fun
  | [d1, d2] => { results := [.lit (.bool true)], args := [d1, d2] }
  | _ => none }
def queueOrderRow : OpenClaim := { program := "ytnhfbignnnicnaadoor", sum := "0f25ee44954bcd6febeea63ee02e8eb8307d225b63bbcdaa53367321f4034ea0", func := "pipeline/pipelinelaw25.QueueOrder", spec := "queueOrder", inPlace := ["internal/bytealg.IndexByteString", "internal/bytealg.IndexString"], unfollowed := true, recurses := true, named := ["unicode/utf8.first", "unicode/utf8.acceptRanges", "internal/bytealg.MaxLen"], apart := false, laid := [("unicode/utf8.acceptRanges", laid_unicode_utf8_acceptRanges), ("unicode/utf8.first", laid_unicode_utf8_first)] }
def QueueOrderSaid : Prop := queueOrderRow.holds Tryd.pinned (OpenSpec.ofChange queueOrderSpec)

/-- ITS FALSE NEIGHBOUR: 'it returns false'. Refute it at one input. -/
def queueOrderWrong : ChangeSpec := { name := "queueOrder", fn := fun _ => fun
  | [d1, d2] => { results := [.lit (.bool false)], args := [d1, d2] }
  | _ => none }
def QueueOrderWrongFalsely : Prop := queueOrderRow.holds Tryd.pinned (OpenSpec.ofChange queueOrderWrong)

/-- 'pipelinelaw25.QueueShuffles': WHATEVER THE INPUT: true; the input reads as it did. -/
def queueShufflesSpec : ChangeSpec := { name := "queueShuffles", fn := fun _ => fun
  | [d1, d2] => { results := [.lit (.bool true)], args := [d1, d2] }
  | _ => none }
def queueShufflesRow : OpenClaim := { program := "ytnhfbignnnicnaadoor", sum := "0f25ee44954bcd6febeea63ee02e8eb8307d225b63bbcdaa53367321f4034ea0", func := "pipeline/pipelinelaw25.QueueShuffles", spec := "queueShuffles", inPlace := ["internal/bytealg.IndexByteString", "internal/bytealg.IndexString"], unfollowed := true, recurses := true, named := ["unicode/utf8.first", "unicode/utf8.acceptRanges", "internal/bytealg.MaxLen"], apart := false, laid := [("unicode/utf8.acceptRanges", laid_unicode_utf8_acceptRanges), ("unicode/utf8.first", laid_unicode_utf8_first)] }
def QueueShufflesSaid : Prop := queueShufflesRow.holds Tryd.pinned (OpenSpec.ofChange queueShufflesSpec)

/-- ITS FALSE NEIGHBOUR: 'it returns false'. Refute it at one input. -/
def queueShufflesWrong : ChangeSpec := { name := "queueShuffles", fn := fun _ => fun
  | [d1, d2] => { results := [.lit (.bool false)], args := [d1, d2] }
  | _ => none }
def QueueShufflesWrongFalsely : Prop := queueShufflesRow.holds Tryd.pinned (OpenSpec.ofChange queueShufflesWrong)

/-- 'pipelinelaw25.QueueAges': WHATEVER THE INPUT: true; the input reads as it did. -/
def queueAgesSpec : ChangeSpec := { name := "queueAges", fn := fun _ => fun
  | [d1, d2] => { results := [.lit (.bool true)], args := [d1, d2] }
  | _ => none }
def queueAgesRow : OpenClaim := { program := "ytnhfbignnnicnaadoor", sum := "0f25ee44954bcd6febeea63ee02e8eb8307d225b63bbcdaa53367321f4034ea0", func := "pipeline/pipelinelaw25.QueueAges", spec := "queueAges", inPlace := ["internal/bytealg.IndexByteString", "internal/bytealg.IndexString"], unfollowed := true, recurses := true, named := ["unicode/utf8.first", "unicode/utf8.acceptRanges", "internal/bytealg.MaxLen"], apart := false, laid := [("unicode/utf8.acceptRanges", laid_unicode_utf8_acceptRanges), ("unicode/utf8.first", laid_unicode_utf8_first)] }
def QueueAgesSaid : Prop := queueAgesRow.holds Tryd.pinned (OpenSpec.ofChange queueAgesSpec)

/-- ITS FALSE NEIGHBOUR: 'it returns false'. Refute it at one input. -/
def queueAgesWrong : ChangeSpec := { name := "queueAges", fn := fun _ => fun
  | [d1, d2] => { results := [.lit (.bool false)], args := [d1, d2] }
  | _ => none }
def QueueAgesWrongFalsely : Prop := queueAgesRow.holds Tryd.pinned (OpenSpec.ofChange queueAgesWrong)

/-- 'pipelinelaw25.QueueRemove': WHATEVER THE INPUT: true; the input reads as it did. -/
def queueRemoveSpec : ChangeSpec := { name := "queueRemove", fn := fun _ => fun
  | [d1, d2] => { results := [.lit (.bool true)], args := [d1, d2] }
  | _ => none }
def queueRemoveRow : OpenClaim := { program := "ytnhfbignnnicnaadoor", sum := "0f25ee44954bcd6febeea63ee02e8eb8307d225b63bbcdaa53367321f4034ea0", func := "pipeline/pipelinelaw25.QueueRemove", spec := "queueRemove", inPlace := ["internal/bytealg.IndexByteString", "internal/bytealg.IndexString"], unfollowed := true, recurses := true, named := ["unicode/utf8.first", "unicode/utf8.acceptRanges", "internal/bytealg.MaxLen"], apart := false, laid := [("unicode/utf8.acceptRanges", laid_unicode_utf8_acceptRanges), ("unicode/utf8.first", laid_unicode_utf8_first)] }
def QueueRemoveSaid : Prop := queueRemoveRow.holds Tryd.pinned (OpenSpec.ofChange queueRemoveSpec)

/-- ITS FALSE NEIGHBOUR: 'it returns false'. Refute it at one input. -/
def queueRemoveWrong : ChangeSpec := { name := "queueRemove", fn := fun _ => fun
  | [d1, d2] => { results := [.lit (.bool false)], args := [d1, d2] }
  | _ => none }
def QueueRemoveWrongFalsely : Prop := queueRemoveRow.holds Tryd.pinned (OpenSpec.ofChange queueRemoveWrong)

/-- 'pipelinelaw25.QueueProjects': WHATEVER THE INPUT: true; the input reads as it did. -/
def queueProjectsSpec : ChangeSpec := { name := "queueProjects", fn := fun _ => fun
  | [d] => { results := [.lit (.bool true)], args := [d] }
  | _ => none }
def queueProjectsRow : OpenClaim := { program := "ytnhfbignnnicnaadoor", sum := "0f25ee44954bcd6febeea63ee02e8eb8307d225b63bbcdaa53367321f4034ea0", func := "pipeline/pipelinelaw25.QueueProjects", spec := "queueProjects", inPlace := ["internal/bytealg.IndexByteString", "internal/bytealg.IndexString"], unfollowed := true, recurses := true, named := ["unicode/utf8.first", "unicode/utf8.acceptRanges", "internal/bytealg.MaxLen"], apart := false, laid := [("unicode/utf8.acceptRanges", laid_unicode_utf8_acceptRanges), ("unicode/utf8.first", laid_unicode_utf8_first)] }
def QueueProjectsSaid : Prop := queueProjectsRow.holds Tryd.pinned (OpenSpec.ofChange queueProjectsSpec)

/-- ITS FALSE NEIGHBOUR: 'it returns false'. Refute it at one input. -/
def queueProjectsWrong : ChangeSpec := { name := "queueProjects", fn := fun _ => fun
  | [d] => { results := [.lit (.bool false)], args := [d] }
  | _ => none }
def QueueProjectsWrongFalsely : Prop := queueProjectsRow.holds Tryd.pinned (OpenSpec.ofChange queueProjectsWrong)

/- THE SECOND FORM. 'bulk': how many values and letters a reading holds, each counted each time it is reached (what is shared counts as often as it is met; a slice's spare places count too). A statement '..UptoSaid' is the law's where the arguments, and the package variables that the reading takes, are together of bulk at most 1048576: NARROWER than '..Said'. Prove '..Said' where nothing that the law and all that it calls make is longer than what came in: it says more and counts as full. Else prove '..UptoSaid'. A law counts once. -/
mutual
def uptoBulk {H : Type} : DataW H → Nat
  | .lit (.string bytes) => bytes.length + 1
  | .lit _ => 1
  | .nil => 1
  | .ptr d => uptoBulk d + 1
  | .slice elems spare => uptoBulkAll elems + uptoBulkAll spare + 1
  | .agg parts => uptoBulkAll parts + 1
  | .iface _ d => uptoBulk d + 1
  | .map entries => uptoBulkEntries entries + 1
  | .held _ => 1
def uptoBulkAll {H : Type} : List (DataW H) → Nat
  | [] => 0
  | d :: r => uptoBulk d + uptoBulkAll r
def uptoBulkEntries {H : Type} : List (Lit × DataW H) → Nat
  | [] => 0
  | x :: r => uptoBulkEntry x + uptoBulkEntries r
def uptoBulkEntry {H : Type} : Lit × DataW H → Nat
  | (.string bytes, d) => bytes.length + uptoBulk d + 1
  | (_, d) => uptoBulk d + 1
 end
def uptoSmall : (H : Type) → List (DataW H) → Bool := fun _ ds => decide (uptoBulkAll ds ≤ 1048576)
def OpenSpec.upto (s : _root_.Go.ChangeSpec) : _root_.Go.OpenSpec := { _root_.Go.OpenSpec.ofChange s with cond := some uptoSmall }

/-- 'pipelinelaw25.QueuePush', WHERE WHAT IT READS IS OF BULK AT MOST 1048576: true; the input reads as it did. -/
def queuePushUptoRow : OpenClaim := { program := "ytnhfbignnnicnaadoor", sum := "0f25ee44954bcd6febeea63ee02e8eb8307d225b63bbcdaa53367321f4034ea0", func := "pipeline/pipelinelaw25.QueuePush", spec := "queuePush", inPlace := ["internal/bytealg.IndexByteString", "internal/bytealg.IndexString"], unfollowed := true, recurses := true, named := ["unicode/utf8.first", "unicode/utf8.acceptRanges", "internal/bytealg.MaxLen"], apart := false, laid := [("unicode/utf8.acceptRanges", laid_unicode_utf8_acceptRanges), ("unicode/utf8.first", laid_unicode_utf8_first)], narrowed := true }
def QueuePushUptoSaid : Prop := queuePushUptoRow.holds Tryd.pinned (OpenSpec.upto queuePushSpec)

/-- 'pipelinelaw25.QueueFull', WHERE WHAT IT READS IS OF BULK AT MOST 1048576: true; the input reads as it did. -/
def queueFullUptoRow : OpenClaim := { program := "ytnhfbignnnicnaadoor", sum := "0f25ee44954bcd6febeea63ee02e8eb8307d225b63bbcdaa53367321f4034ea0", func := "pipeline/pipelinelaw25.QueueFull", spec := "queueFull", inPlace := ["internal/bytealg.IndexByteString", "internal/bytealg.IndexString"], unfollowed := true, recurses := true, named := ["unicode/utf8.first", "unicode/utf8.acceptRanges", "internal/bytealg.MaxLen"], apart := false, laid := [("unicode/utf8.acceptRanges", laid_unicode_utf8_acceptRanges), ("unicode/utf8.first", laid_unicode_utf8_first)], narrowed := true }
def QueueFullUptoSaid : Prop := queueFullUptoRow.holds Tryd.pinned (OpenSpec.upto queueFullSpec)

/-- 'pipelinelaw25.QueueRanks', WHERE WHAT IT READS IS OF BULK AT MOST 1048576: true; the input reads as it did. -/
def queueRanksUptoRow : OpenClaim := { program := "ytnhfbignnnicnaadoor", sum := "0f25ee44954bcd6febeea63ee02e8eb8307d225b63bbcdaa53367321f4034ea0", func := "pipeline/pipelinelaw25.QueueRanks", spec := "queueRanks", inPlace := ["internal/bytealg.IndexByteString", "internal/bytealg.IndexString"], unfollowed := true, recurses := true, named := ["unicode/utf8.first", "unicode/utf8.acceptRanges", "internal/bytealg.MaxLen"], apart := false, laid := [("unicode/utf8.acceptRanges", laid_unicode_utf8_acceptRanges), ("unicode/utf8.first", laid_unicode_utf8_first)], narrowed := true }
def QueueRanksUptoSaid : Prop := queueRanksUptoRow.holds Tryd.pinned (OpenSpec.upto queueRanksSpec)

/-- 'pipelinelaw25.QueueOrder', WHERE WHAT IT READS IS OF BULK AT MOST 1048576: true; the input reads as it did. -/
def queueOrderUptoRow : OpenClaim := { program := "ytnhfbignnnicnaadoor", sum := "0f25ee44954bcd6febeea63ee02e8eb8307d225b63bbcdaa53367321f4034ea0", func := "pipeline/pipelinelaw25.QueueOrder", spec := "queueOrder", inPlace := ["internal/bytealg.IndexByteString", "internal/bytealg.IndexString"], unfollowed := true, recurses := true, named := ["unicode/utf8.first", "unicode/utf8.acceptRanges", "internal/bytealg.MaxLen"], apart := false, laid := [("unicode/utf8.acceptRanges", laid_unicode_utf8_acceptRanges), ("unicode/utf8.first", laid_unicode_utf8_first)], narrowed := true }
def QueueOrderUptoSaid : Prop := queueOrderUptoRow.holds Tryd.pinned (OpenSpec.upto queueOrderSpec)

/-- 'pipelinelaw25.QueueShuffles', WHERE WHAT IT READS IS OF BULK AT MOST 1048576: true; the input reads as it did. -/
def queueShufflesUptoRow : OpenClaim := { program := "ytnhfbignnnicnaadoor", sum := "0f25ee44954bcd6febeea63ee02e8eb8307d225b63bbcdaa53367321f4034ea0", func := "pipeline/pipelinelaw25.QueueShuffles", spec := "queueShuffles", inPlace := ["internal/bytealg.IndexByteString", "internal/bytealg.IndexString"], unfollowed := true, recurses := true, named := ["unicode/utf8.first", "unicode/utf8.acceptRanges", "internal/bytealg.MaxLen"], apart := false, laid := [("unicode/utf8.acceptRanges", laid_unicode_utf8_acceptRanges), ("unicode/utf8.first", laid_unicode_utf8_first)], narrowed := true }
def QueueShufflesUptoSaid : Prop := queueShufflesUptoRow.holds Tryd.pinned (OpenSpec.upto queueShufflesSpec)

/-- 'pipelinelaw25.QueueAges', WHERE WHAT IT READS IS OF BULK AT MOST 1048576: true; the input reads as it did. -/
def queueAgesUptoRow : OpenClaim := { program := "ytnhfbignnnicnaadoor", sum := "0f25ee44954bcd6febeea63ee02e8eb8307d225b63bbcdaa53367321f4034ea0", func := "pipeline/pipelinelaw25.QueueAges", spec := "queueAges", inPlace := ["internal/bytealg.IndexByteString", "internal/bytealg.IndexString"], unfollowed := true, recurses := true, named := ["unicode/utf8.first", "unicode/utf8.acceptRanges", "internal/bytealg.MaxLen"], apart := false, laid := [("unicode/utf8.acceptRanges", laid_unicode_utf8_acceptRanges), ("unicode/utf8.first", laid_unicode_utf8_first)], narrowed := true }
def QueueAgesUptoSaid : Prop := queueAgesUptoRow.holds Tryd.pinned (OpenSpec.upto queueAgesSpec)

/-- 'pipelinelaw25.QueueRemove', WHERE WHAT IT READS IS OF BULK AT MOST 1048576: true; the input reads as it did. -/
def queueRemoveUptoRow : OpenClaim := { program := "ytnhfbignnnicnaadoor", sum := "0f25ee44954bcd6febeea63ee02e8eb8307d225b63bbcdaa53367321f4034ea0", func := "pipeline/pipelinelaw25.QueueRemove", spec := "queueRemove", inPlace := ["internal/bytealg.IndexByteString", "internal/bytealg.IndexString"], unfollowed := true, recurses := true, named := ["unicode/utf8.first", "unicode/utf8.acceptRanges", "internal/bytealg.MaxLen"], apart := false, laid := [("unicode/utf8.acceptRanges", laid_unicode_utf8_acceptRanges), ("unicode/utf8.first", laid_unicode_utf8_first)], narrowed := true }
def QueueRemoveUptoSaid : Prop := queueRemoveUptoRow.holds Tryd.pinned (OpenSpec.upto queueRemoveSpec)

/-- 'pipelinelaw25.QueueProjects', WHERE WHAT IT READS IS OF BULK AT MOST 1048576: true; the input reads as it did. -/
def queueProjectsUptoRow : OpenClaim := { program := "ytnhfbignnnicnaadoor", sum := "0f25ee44954bcd6febeea63ee02e8eb8307d225b63bbcdaa53367321f4034ea0", func := "pipeline/pipelinelaw25.QueueProjects", spec := "queueProjects", inPlace := ["internal/bytealg.IndexByteString", "internal/bytealg.IndexString"], unfollowed := true, recurses := true, named := ["unicode/utf8.first", "unicode/utf8.acceptRanges", "internal/bytealg.MaxLen"], apart := false, laid := [("unicode/utf8.acceptRanges", laid_unicode_utf8_acceptRanges), ("unicode/utf8.first", laid_unicode_utf8_first)], narrowed := true }
def QueueProjectsUptoSaid : Prop := queueProjectsUptoRow.holds Tryd.pinned (OpenSpec.upto queueProjectsSpec)

end Rows
end Go.Proofs.YtnhfbignnnicnaaDoor
