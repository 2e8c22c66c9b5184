/-
  NARROWER THAN 'FOR EVERY INPUT', by the rows' own cells (each row's printed sentence says how): FairnessAdd: laid · FairnessCharge: laid · FairnessPick: laid · FairnessJoins: laid · FairnessOrder: laid · FairnessBound: laid.
  DERIVED. THE GIVEN ROWS OF THIS SEAT. 6 by the template 'for every input the law returns true; each argument reads behind the call as it read before'; 0 by the template 'total and deterministic' (their statements: YtopicpghhpkgbaaDoorTotals.lean).
  GIVEN WITH THE SEED: the statements are not yours to turn. If you find one false, say at which input.
  Laid BY PROGRAM, IN A SANDBOX (cutbox-rows.mjs): the forced cells as the released guide's own fill.sh prints them over the translation d2dc41b3c1a58cbe… (all of the seat's roots in one cut). By AI agents, Wed Nov 11 2026. No macro, syntax, notation, axiom, sorry.
-/
import Derived.Test.YtopicpghhpkgbaaDoorChecked
import GoSem.PinnedTables
import GoSem.Claim
import GoSem.ClaimJoined
import GoSem.ClaimMapViews
import Derived.JoinedTies
import Derived.KernelRfl
namespace Go.Proofs.YtopicpghhpkgbaaDoor
/- THE CELL 'sum', in the pinned program and in every row, IS THE sha256 OF THE DUMP (.gsa) THAT YtopicpghhpkgbaaDoorProg.lean LOADS. Nothing in Lean hashes anything: it is a label: what it is worth is what the hold of that sum in a sandbox is worth. -/
noncomputable def Tryd.pinned : Pinned := { name := "ytopicpghhpkgbaadoor", sum := "d2dc41b3c1a58cbe44b4281ddadc0f586d7fdfc0e56aac0eaba610b5eaed40e8", checked := Tryd.checked }
namespace Rows
def none {H : Type} : Left H := { results := [], args := [] }

/- WHAT THE LISTED PACKAGE-LEVEL VARIABLES READ AS WHEN THE CALL BEGINS. Each datum BY PROGRAM (the guide's laid-datum.mjs) off the statement by which the dump's own 'gosem.cut.vars' lays the variable. In a bare row this is a premise. The card (YtopicpghhpkgbaaDoorCards.lean) ties it to the program's text. -/
def laid_unicode_utf8_acceptRanges {H : Type} : DataW H := .agg [.agg [.lit (.int .u8 128), .lit (.int .u8 191)], .agg [.lit (.int .u8 160), .lit (.int .u8 191)], .agg [.lit (.int .u8 128), .lit (.int .u8 159)], .agg [.lit (.int .u8 144), .lit (.int .u8 191)], .agg [.lit (.int .u8 128), .lit (.int .u8 143)], .agg [.lit (.int .u8 0), .lit (.int .u8 0)], .agg [.lit (.int .u8 0), .lit (.int .u8 0)], .agg [.lit (.int .u8 0), .lit (.int .u8 0)], .agg [.lit (.int .u8 0), .lit (.int .u8 0)], .agg [.lit (.int .u8 0), .lit (.int .u8 0)], .agg [.lit (.int .u8 0), .lit (.int .u8 0)], .agg [.lit (.int .u8 0), .lit (.int .u8 0)], .agg [.lit (.int .u8 0), .lit (.int .u8 0)], .agg [.lit (.int .u8 0), .lit (.int .u8 0)], .agg [.lit (.int .u8 0), .lit (.int .u8 0)], .agg [.lit (.int .u8 0), .lit (.int .u8 0)]]
/-- One of Go's own tables, pinned by name: the form's constant. -/
def laid_unicode_utf8_first : DataW Unit := Go.Pinned.utf8First

/-- 'pipelinelaw23.FairnessAdd': WHATEVER THE INPUT: true; the input reads as it did. -/
def fairnessAddSpec : ChangeSpec := { name := "fairnessAdd", fn := fun _ => fun
  | [d1, d2, d3] => { results := [.lit (.bool true)], args := [d1, d2, d3] }
  | _ => none }
def fairnessAddRow : OpenClaim := { program := "ytopicpghhpkgbaadoor", sum := "d2dc41b3c1a58cbe44b4281ddadc0f586d7fdfc0e56aac0eaba610b5eaed40e8", func := "pipeline/pipelinelaw23.FairnessAdd", spec := "fairnessAdd", inPlace := ["internal/bytealg.IndexByteString", "internal/bytealg.IndexString", "slices.overlaps[pipeline/api.Share]"], unfollowed := true, recurses := true, named := ["unicode/utf8.first", "unicode/utf8.acceptRanges", "internal/bytealg.MaxLen"], apart := false, laid := [("unicode/utf8.acceptRanges", laid_unicode_utf8_acceptRanges), ("unicode/utf8.first", laid_unicode_utf8_first)] }
def FairnessAddSaid : Prop := fairnessAddRow.holds Tryd.pinned (OpenSpec.ofChange fairnessAddSpec)

/-- ITS FALSE NEIGHBOUR: 'it returns false'. Refute it at one input. -/
def fairnessAddWrong : ChangeSpec := { name := "fairnessAdd", fn := fun _ => fun
  | [d1, d2, d3] => { results := [.lit (.bool false)], args := [d1, d2, d3] }
  | _ => none }
def FairnessAddWrongFalsely : Prop := fairnessAddRow.holds Tryd.pinned (OpenSpec.ofChange fairnessAddWrong)

/-- 'pipelinelaw23.FairnessCharge': WHATEVER THE INPUT: true; the input reads as it did. -/
def fairnessChargeSpec : ChangeSpec := { name := "fairnessCharge", fn := fun _ => fun
  | [d1, d2, d3] => { results := [.lit (.bool true)], args := [d1, d2, d3] }
  | _ => none }
def fairnessChargeRow : OpenClaim := { program := "ytopicpghhpkgbaadoor", sum := "d2dc41b3c1a58cbe44b4281ddadc0f586d7fdfc0e56aac0eaba610b5eaed40e8", func := "pipeline/pipelinelaw23.FairnessCharge", spec := "fairnessCharge", inPlace := ["internal/bytealg.IndexByteString", "internal/bytealg.IndexString", "slices.overlaps[pipeline/api.Share]"], unfollowed := true, recurses := true, named := ["unicode/utf8.first", "unicode/utf8.acceptRanges", "internal/bytealg.MaxLen"], apart := false, laid := [("unicode/utf8.acceptRanges", laid_unicode_utf8_acceptRanges), ("unicode/utf8.first", laid_unicode_utf8_first)] }
def FairnessChargeSaid : Prop := fairnessChargeRow.holds Tryd.pinned (OpenSpec.ofChange fairnessChargeSpec)

/-- ITS FALSE NEIGHBOUR: 'it returns false'. Refute it at one input. -/
def fairnessChargeWrong : ChangeSpec := { name := "fairnessCharge", fn := fun _ => fun
  | [d1, d2, d3] => { results := [.lit (.bool false)], args := [d1, d2, d3] }
  | _ => none }
def FairnessChargeWrongFalsely : Prop := fairnessChargeRow.holds Tryd.pinned (OpenSpec.ofChange fairnessChargeWrong)

/-- 'pipelinelaw23.FairnessPick': WHATEVER THE INPUT: true; the input reads as it did. -/
def fairnessPickSpec : ChangeSpec := { name := "fairnessPick", fn := fun _ => fun
  | [d1, d2] => { results := [.lit (.bool true)], args := [d1, d2] }
  | _ => none }
def fairnessPickRow : OpenClaim := { program := "ytopicpghhpkgbaadoor", sum := "d2dc41b3c1a58cbe44b4281ddadc0f586d7fdfc0e56aac0eaba610b5eaed40e8", func := "pipeline/pipelinelaw23.FairnessPick", spec := "fairnessPick", inPlace := ["internal/bytealg.IndexByteString", "internal/bytealg.IndexString", "slices.overlaps[pipeline/api.Share]"], unfollowed := true, recurses := true, named := ["unicode/utf8.first", "unicode/utf8.acceptRanges", "internal/bytealg.MaxLen"], apart := false, laid := [("unicode/utf8.acceptRanges", laid_unicode_utf8_acceptRanges), ("unicode/utf8.first", laid_unicode_utf8_first)] }
def FairnessPickSaid : Prop := fairnessPickRow.holds Tryd.pinned (OpenSpec.ofChange fairnessPickSpec)

/-- ITS FALSE NEIGHBOUR: 'it returns false'. Refute it at one input. -/
def fairnessPickWrong : ChangeSpec := { name := "fairnessPick", fn := fun _ => fun
  | [d1, d2] => { results := [.lit (.bool false)], args := [d1, d2] }
  | _ => none }
def FairnessPickWrongFalsely : Prop := fairnessPickRow.holds Tryd.pinned (OpenSpec.ofChange fairnessPickWrong)

/-- 'pipelinelaw23.FairnessJoins': WHATEVER THE INPUT: true; the input reads as it did. -/
def fairnessJoinsSpec : ChangeSpec := { name := "fairnessJoins", fn := fun _ => fun
  | [d1, d2, d3] => { results := [.lit (.bool true)], args := [d1, d2, d3] }
  | _ => none }
def fairnessJoinsRow : OpenClaim := { program := "ytopicpghhpkgbaadoor", sum := "d2dc41b3c1a58cbe44b4281ddadc0f586d7fdfc0e56aac0eaba610b5eaed40e8", func := "pipeline/pipelinelaw23.FairnessJoins", spec := "fairnessJoins", inPlace := ["internal/bytealg.IndexByteString", "internal/bytealg.IndexString", "slices.overlaps[pipeline/api.Share]"], unfollowed := true, recurses := true, named := ["unicode/utf8.first", "unicode/utf8.acceptRanges", "internal/bytealg.MaxLen"], apart := false, laid := [("unicode/utf8.acceptRanges", laid_unicode_utf8_acceptRanges), ("unicode/utf8.first", laid_unicode_utf8_first)] }
def FairnessJoinsSaid : Prop := fairnessJoinsRow.holds Tryd.pinned (OpenSpec.ofChange fairnessJoinsSpec)

/-- ITS FALSE NEIGHBOUR: 'it returns false'. Refute it at one input. -/
def fairnessJoinsWrong : ChangeSpec := { name := "fairnessJoins", fn := fun _ => fun
  | [d1, d2, d3] => { results := [.lit (.bool false)], args := [d1, d2, d3] }
  | _ => none }
def FairnessJoinsWrongFalsely : Prop := fairnessJoinsRow.holds Tryd.pinned (OpenSpec.ofChange fairnessJoinsWrong)

/-- 'pipelinelaw23.FairnessOrder': WHATEVER THE INPUT: true; the input reads as it did. -/
def fairnessOrderSpec : ChangeSpec := { name := "fairnessOrder", fn := fun _ => fun
  | [d1, d2] => { results := [.lit (.bool true)], args := [d1, d2] }
  | _ => none }
def fairnessOrderRow : OpenClaim := { program := "ytopicpghhpkgbaadoor", sum := "d2dc41b3c1a58cbe44b4281ddadc0f586d7fdfc0e56aac0eaba610b5eaed40e8", func := "pipeline/pipelinelaw23.FairnessOrder", spec := "fairnessOrder", inPlace := ["internal/bytealg.IndexByteString", "internal/bytealg.IndexString", "slices.overlaps[pipeline/api.Share]"], unfollowed := true, recurses := true, named := ["unicode/utf8.first", "unicode/utf8.acceptRanges", "internal/bytealg.MaxLen"], apart := false, laid := [("unicode/utf8.acceptRanges", laid_unicode_utf8_acceptRanges), ("unicode/utf8.first", laid_unicode_utf8_first)] }
def FairnessOrderSaid : Prop := fairnessOrderRow.holds Tryd.pinned (OpenSpec.ofChange fairnessOrderSpec)

/-- ITS FALSE NEIGHBOUR: 'it returns false'. Refute it at one input. -/
def fairnessOrderWrong : ChangeSpec := { name := "fairnessOrder", fn := fun _ => fun
  | [d1, d2] => { results := [.lit (.bool false)], args := [d1, d2] }
  | _ => none }
def FairnessOrderWrongFalsely : Prop := fairnessOrderRow.holds Tryd.pinned (OpenSpec.ofChange fairnessOrderWrong)

/-- 'pipelinelaw23.FairnessBound': WHATEVER THE INPUT: true; the input reads as it did. -/
def fairnessBoundSpec : ChangeSpec := { name := "fairnessBound", fn := fun _ => fun
  | [d1, d2] => { results := [.lit (.bool true)], args := [d1, d2] }
  | _ => none }
def fairnessBoundRow : OpenClaim := { program := "ytopicpghhpkgbaadoor", sum := "d2dc41b3c1a58cbe44b4281ddadc0f586d7fdfc0e56aac0eaba610b5eaed40e8", func := "pipeline/pipelinelaw23.FairnessBound", spec := "fairnessBound", inPlace := ["internal/bytealg.IndexByteString", "internal/bytealg.IndexString", "slices.overlaps[pipeline/api.Share]"], unfollowed := true, recurses := true, named := ["unicode/utf8.first", "unicode/utf8.acceptRanges", "internal/bytealg.MaxLen"], apart := false, laid := [("unicode/utf8.acceptRanges", laid_unicode_utf8_acceptRanges), ("unicode/utf8.first", laid_unicode_utf8_first)] }
def FairnessBoundSaid : Prop := fairnessBoundRow.holds Tryd.pinned (OpenSpec.ofChange fairnessBoundSpec)

/-- ITS FALSE NEIGHBOUR: 'it returns false'. Refute it at one input. -/
def fairnessBoundWrong : ChangeSpec := { name := "fairnessBound", fn := fun _ => fun
  | [d1, d2] => { results := [.lit (.bool false)], args := [d1, d2] }
  | _ => none }
def FairnessBoundWrongFalsely : Prop := fairnessBoundRow.holds Tryd.pinned (OpenSpec.ofChange fairnessBoundWrong)

/- THE SECOND FORM. 'bulk': how many values and letters a reading holds, each counted each time it is reached (what is shared counts as often as it is met; a slice's spare places count too). A statement '..UptoSaid' is the law's where the arguments, and the package variables that the reading takes, are together of bulk at most 1048576: NARROWER than '..Said'. Prove '..Said' where nothing that the law and all that it calls make is longer than what came in: it says more and counts as full. Else prove '..UptoSaid'. A law counts once. -/
mutual
def uptoBulk {H : Type} : DataW H → Nat
  | .lit (.string bytes) => bytes.length + 1
  | .lit _ => 1
  | .nil => 1
  | .ptr d => uptoBulk d + 1
  | .slice elems spare => uptoBulkAll elems + uptoBulkAll spare + 1
  | .agg parts => uptoBulkAll parts + 1
  | .iface _ d => uptoBulk d + 1
  | .map entries => uptoBulkEntries entries + 1
  | .held _ => 1
def uptoBulkAll {H : Type} : List (DataW H) → Nat
  | [] => 0
  | d :: r => uptoBulk d + uptoBulkAll r
def uptoBulkEntries {H : Type} : List (Lit × DataW H) → Nat
  | [] => 0
  | x :: r => uptoBulkEntry x + uptoBulkEntries r
def uptoBulkEntry {H : Type} : Lit × DataW H → Nat
  | (.string bytes, d) => bytes.length + uptoBulk d + 1
  | (_, d) => uptoBulk d + 1
 end
def uptoSmall : (H : Type) → List (DataW H) → Bool := fun _ ds => decide (uptoBulkAll ds ≤ 1048576)
def OpenSpec.upto (s : _root_.Go.ChangeSpec) : _root_.Go.OpenSpec := { _root_.Go.OpenSpec.ofChange s with cond := some uptoSmall }

/-- 'pipelinelaw23.FairnessAdd', WHERE WHAT IT READS IS OF BULK AT MOST 1048576: true; the input reads as it did. -/
def fairnessAddUptoRow : OpenClaim := { program := "ytopicpghhpkgbaadoor", sum := "d2dc41b3c1a58cbe44b4281ddadc0f586d7fdfc0e56aac0eaba610b5eaed40e8", func := "pipeline/pipelinelaw23.FairnessAdd", spec := "fairnessAdd", inPlace := ["internal/bytealg.IndexByteString", "internal/bytealg.IndexString", "slices.overlaps[pipeline/api.Share]"], unfollowed := true, recurses := true, named := ["unicode/utf8.first", "unicode/utf8.acceptRanges", "internal/bytealg.MaxLen"], apart := false, laid := [("unicode/utf8.acceptRanges", laid_unicode_utf8_acceptRanges), ("unicode/utf8.first", laid_unicode_utf8_first)], narrowed := true }
def FairnessAddUptoSaid : Prop := fairnessAddUptoRow.holds Tryd.pinned (OpenSpec.upto fairnessAddSpec)

/-- 'pipelinelaw23.FairnessCharge', WHERE WHAT IT READS IS OF BULK AT MOST 1048576: true; the input reads as it did. -/
def fairnessChargeUptoRow : OpenClaim := { program := "ytopicpghhpkgbaadoor", sum := "d2dc41b3c1a58cbe44b4281ddadc0f586d7fdfc0e56aac0eaba610b5eaed40e8", func := "pipeline/pipelinelaw23.FairnessCharge", spec := "fairnessCharge", inPlace := ["internal/bytealg.IndexByteString", "internal/bytealg.IndexString", "slices.overlaps[pipeline/api.Share]"], unfollowed := true, recurses := true, named := ["unicode/utf8.first", "unicode/utf8.acceptRanges", "internal/bytealg.MaxLen"], apart := false, laid := [("unicode/utf8.acceptRanges", laid_unicode_utf8_acceptRanges), ("unicode/utf8.first", laid_unicode_utf8_first)], narrowed := true }
def FairnessChargeUptoSaid : Prop := fairnessChargeUptoRow.holds Tryd.pinned (OpenSpec.upto fairnessChargeSpec)

/-- 'pipelinelaw23.FairnessPick', WHERE WHAT IT READS IS OF BULK AT MOST 1048576: true; the input reads as it did. -/
def fairnessPickUptoRow : OpenClaim := { program := "ytopicpghhpkgbaadoor", sum := "d2dc41b3c1a58cbe44b4281ddadc0f586d7fdfc0e56aac0eaba610b5eaed40e8", func := "pipeline/pipelinelaw23.FairnessPick", spec := "fairnessPick", inPlace := ["internal/bytealg.IndexByteString", "internal/bytealg.IndexString", "slices.overlaps[pipeline/api.Share]"], unfollowed := true, recurses := true, named := ["unicode/utf8.first", "unicode/utf8.acceptRanges", "internal/bytealg.MaxLen"], apart := false, laid := [("unicode/utf8.acceptRanges", laid_unicode_utf8_acceptRanges), ("unicode/utf8.first", laid_unicode_utf8_first)], narrowed := true }
def FairnessPickUptoSaid : Prop := fairnessPickUptoRow.holds Tryd.pinned (OpenSpec.upto fairnessPickSpec)

/-- 'pipelinelaw23.FairnessJoins', WHERE WHAT IT READS IS OF BULK AT MOST 1048576: true; the input reads as it did. -/
def fairnessJoinsUptoRow : OpenClaim := { program := "ytopicpghhpkgbaadoor", sum := "d2dc41b3c1a58cbe44b4281ddadc0f586d7fdfc0e56aac0eaba610b5eaed40e8", func := "pipeline/pipelinelaw23.FairnessJoins", spec := "fairnessJoins", inPlace := ["internal/bytealg.IndexByteString", "internal/bytealg.IndexString", "slices.overlaps[pipeline/api.Share]"], unfollowed := true, recurses := true, named := ["unicode/utf8.first", "unicode/utf8.acceptRanges", "internal/bytealg.MaxLen"], apart := false, laid := [("unicode/utf8.acceptRanges", laid_unicode_utf8_acceptRanges), ("unicode/utf8.first", laid_unicode_utf8_first)], narrowed := true }
def FairnessJoinsUptoSaid : Prop := fairnessJoinsUptoRow.holds Tryd.pinned (OpenSpec.upto fairnessJoinsSpec)

/-- 'pipelinelaw23.FairnessOrder', WHERE WHAT IT READS IS OF BULK AT MOST 1048576: true; the input reads as it did. -/
def fairnessOrderUptoRow : OpenClaim := { program := "ytopicpghhpkgbaadoor", sum := "d2dc41b3c1a58cbe44b4281ddadc0f586d7fdfc0e56aac0eaba610b5eaed40e8", func := "pipeline/pipelinelaw23.FairnessOrder", spec := "fairnessOrder", inPlace := ["internal/bytealg.IndexByteString", "internal/bytealg.IndexString", "slices.overlaps[pipeline/api.Share]"], unfollowed := true, recurses := true, named := ["unicode/utf8.first", "unicode/utf8.acceptRanges", "internal/bytealg.MaxLen"], apart := false, laid := [("unicode/utf8.acceptRanges", laid_unicode_utf8_acceptRanges), ("unicode/utf8.first", laid_unicode_utf8_first)], narrowed := true }
def FairnessOrderUptoSaid : Prop := fairnessOrderUptoRow.holds Tryd.pinned (OpenSpec.upto fairnessOrderSpec)

/-- 'pipelinelaw23.FairnessBound', WHERE WHAT IT READS IS OF BULK AT MOST 1048576: true; the input reads as it did. -/
def fairnessBoundUptoRow : OpenClaim := { program := "ytopicpghhpkgbaadoor", sum := "d2dc41b3c1a58cbe44b4281ddadc0f586d7fdfc0e56aac0eaba610b5eaed40e8", func := "pipeline/pipelinelaw23.FairnessBound", spec := "fairnessBound", inPlace := ["internal/bytealg.IndexByteString", "internal/bytealg.IndexString", "slices.overlaps[pipeline/api.Share]"], unfollowed := true, recurses := true, named := ["unicode/utf8.first", "unicode/utf8.acceptRanges", "internal/bytealg.MaxLen"], apart := false, laid := [("unicode/utf8.acceptRanges", laid_unicode_utf8_acceptRanges), ("unicode/utf8.first", laid_unicode_utf8_first)], narrowed := true }
def FairnessBoundUptoSaid : Prop := fairnessBoundUptoRow.holds Tryd.pinned (OpenSpec.upto fairnessBoundSpec)

end Rows
end Go.Proofs.YtopicpghhpkgbaaDoor
