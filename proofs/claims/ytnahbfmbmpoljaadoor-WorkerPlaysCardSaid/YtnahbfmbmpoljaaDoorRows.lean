/-
  NARROWER THAN 'FOR EVERY INPUT', by the rows' own cells (each row's printed sentence says how): WorkerValid: laid · WorkerJoins: laid · WorkerMany: laid · WorkerSteps: laid · WorkerLooks: laid · WorkerPlays: laid.
  DERIVED. THE GIVEN ROWS OF THIS SEAT. 6 by the template 'for every input the law returns true; each argument reads behind the call as it read before'; 0 by the template 'total and deterministic' (their statements: YtnahbfmbmpoljaaDoorTotals.lean).
  GIVEN WITH THE SEED: the statements are not yours to turn. If you find one false, say at which input.
  Laid BY PROGRAM, IN A SANDBOX (cutbox-rows.mjs): the forced cells as the released guide's own fill.sh prints them over the translation 1bf203b3f3258158… (all of the seat's roots in one cut). By AI agents, Wed Nov 11 2026. No macro, syntax, notation, axiom, sorry.
-/
import Derived.Test.YtnahbfmbmpoljaaDoorChecked
import GoSem.PinnedTables
import GoSem.Claim
import GoSem.ClaimJoined
import GoSem.ClaimMapViews
import Derived.JoinedTies
import Derived.KernelRfl
namespace Go.Proofs.YtnahbfmbmpoljaaDoor
/- THE CELL 'sum', in the pinned program and in every row, IS THE sha256 OF THE DUMP (.gsa) THAT YtnahbfmbmpoljaaDoorProg.lean LOADS. Nothing in Lean hashes anything: it is a label: what it is worth is what the hold of that sum in a sandbox is worth. -/
noncomputable def Tryd.pinned : Pinned := { name := "ytnahbfmbmpoljaadoor", sum := "1bf203b3f3258158c6ef4186e884a5788716190bd7d186b3224fa11a9b7c1020", checked := Tryd.checked }
namespace Rows
def none {H : Type} : Left H := { results := [], args := [] }

/- WHAT THE LISTED PACKAGE-LEVEL VARIABLES READ AS WHEN THE CALL BEGINS. Each datum BY PROGRAM (the guide's laid-datum.mjs) off the statement by which the dump's own 'gosem.cut.vars' lays the variable. In a bare row this is a premise. The card (YtnahbfmbmpoljaaDoorCards.lean) ties it to the program's text. -/
def laid_unicode_utf8_acceptRanges {H : Type} : DataW H := .agg [.agg [.lit (.int .u8 128), .lit (.int .u8 191)], .agg [.lit (.int .u8 160), .lit (.int .u8 191)], .agg [.lit (.int .u8 128), .lit (.int .u8 159)], .agg [.lit (.int .u8 144), .lit (.int .u8 191)], .agg [.lit (.int .u8 128), .lit (.int .u8 143)], .agg [.lit (.int .u8 0), .lit (.int .u8 0)], .agg [.lit (.int .u8 0), .lit (.int .u8 0)], .agg [.lit (.int .u8 0), .lit (.int .u8 0)], .agg [.lit (.int .u8 0), .lit (.int .u8 0)], .agg [.lit (.int .u8 0), .lit (.int .u8 0)], .agg [.lit (.int .u8 0), .lit (.int .u8 0)], .agg [.lit (.int .u8 0), .lit (.int .u8 0)], .agg [.lit (.int .u8 0), .lit (.int .u8 0)], .agg [.lit (.int .u8 0), .lit (.int .u8 0)], .agg [.lit (.int .u8 0), .lit (.int .u8 0)], .agg [.lit (.int .u8 0), .lit (.int .u8 0)]]
/-- One of Go's own tables, pinned by name: the form's constant. -/
def laid_unicode_utf8_first : DataW Unit := Go.Pinned.utf8First

/-- 'pipelinelaw28.WorkerValid': WHATEVER THE INPUT: true; the input reads as it did. -/
def workerValidSpec : ChangeSpec := { name := "workerValid", fn := fun _ => fun
  | [d] => { results := [.lit (.bool true)], args := [d] }
  | _ => none }
def workerValidRow : OpenClaim := { program := "ytnahbfmbmpoljaadoor", sum := "1bf203b3f3258158c6ef4186e884a5788716190bd7d186b3224fa11a9b7c1020", func := "pipeline/pipelinelaw28.WorkerValid", spec := "workerValid", inPlace := ["internal/bytealg.IndexByteString", "internal/bytealg.IndexString", "slices.overlaps[pipeline/api.Worker]"], unfollowed := true, recurses := true, named := ["internal/bytealg.MaxLen", "unicode/utf8.first", "unicode/utf8.acceptRanges"], apart := false, laid := [("unicode/utf8.acceptRanges", laid_unicode_utf8_acceptRanges), ("unicode/utf8.first", laid_unicode_utf8_first)] }
def WorkerValidSaid : Prop := workerValidRow.holds Tryd.pinned (OpenSpec.ofChange workerValidSpec)

/-- ITS FALSE NEIGHBOUR: 'it returns false'. Refute it at one input. -/
def workerValidWrong : ChangeSpec := { name := "workerValid", fn := fun _ => fun
  | [d] => { results := [.lit (.bool false)], args := [d] }
  | _ => none }
def WorkerValidWrongFalsely : Prop := workerValidRow.holds Tryd.pinned (OpenSpec.ofChange workerValidWrong)

/-- 'pipelinelaw28.WorkerJoins': WHATEVER THE INPUT: true; the input reads as it did. -/
def workerJoinsSpec : ChangeSpec := { name := "workerJoins", fn := fun _ => fun
  | [d1, d2, d3] => { results := [.lit (.bool true)], args := [d1, d2, d3] }
  | _ => none }
def workerJoinsRow : OpenClaim := { program := "ytnahbfmbmpoljaadoor", sum := "1bf203b3f3258158c6ef4186e884a5788716190bd7d186b3224fa11a9b7c1020", func := "pipeline/pipelinelaw28.WorkerJoins", spec := "workerJoins", inPlace := ["internal/bytealg.IndexByteString", "internal/bytealg.IndexString", "slices.overlaps[pipeline/api.Worker]"], unfollowed := true, recurses := true, named := ["internal/bytealg.MaxLen", "unicode/utf8.first", "unicode/utf8.acceptRanges"], apart := false, laid := [("unicode/utf8.acceptRanges", laid_unicode_utf8_acceptRanges), ("unicode/utf8.first", laid_unicode_utf8_first)] }
def WorkerJoinsSaid : Prop := workerJoinsRow.holds Tryd.pinned (OpenSpec.ofChange workerJoinsSpec)

/-- ITS FALSE NEIGHBOUR: 'it returns false'. Refute it at one input. -/
def workerJoinsWrong : ChangeSpec := { name := "workerJoins", fn := fun _ => fun
  | [d1, d2, d3] => { results := [.lit (.bool false)], args := [d1, d2, d3] }
  | _ => none }
def WorkerJoinsWrongFalsely : Prop := workerJoinsRow.holds Tryd.pinned (OpenSpec.ofChange workerJoinsWrong)

/-- 'pipelinelaw28.WorkerMany': WHATEVER THE INPUT: true; the input reads as it did. -/
def workerManySpec : ChangeSpec := { name := "workerMany", fn := fun _ => fun
  | [d] => { results := [.lit (.bool true)], args := [d] }
  | _ => none }
def workerManyRow : OpenClaim := { program := "ytnahbfmbmpoljaadoor", sum := "1bf203b3f3258158c6ef4186e884a5788716190bd7d186b3224fa11a9b7c1020", func := "pipeline/pipelinelaw28.WorkerMany", spec := "workerMany", inPlace := ["internal/bytealg.IndexByteString", "internal/bytealg.IndexString", "slices.overlaps[pipeline/api.Worker]"], unfollowed := true, recurses := true, named := ["internal/bytealg.MaxLen", "unicode/utf8.first", "unicode/utf8.acceptRanges"], apart := false, laid := [("unicode/utf8.acceptRanges", laid_unicode_utf8_acceptRanges), ("unicode/utf8.first", laid_unicode_utf8_first)] }
def WorkerManySaid : Prop := workerManyRow.holds Tryd.pinned (OpenSpec.ofChange workerManySpec)

/-- ITS FALSE NEIGHBOUR: 'it returns false'. Refute it at one input. -/
def workerManyWrong : ChangeSpec := { name := "workerMany", fn := fun _ => fun
  | [d] => { results := [.lit (.bool false)], args := [d] }
  | _ => none }
def WorkerManyWrongFalsely : Prop := workerManyRow.holds Tryd.pinned (OpenSpec.ofChange workerManyWrong)

/-- 'pipelinelaw28.WorkerSteps': WHATEVER THE INPUT: true; the input reads as it did. -/
def workerStepsSpec : ChangeSpec := { name := "workerSteps", fn := fun _ => fun
  | [d1, d2, d3] => { results := [.lit (.bool true)], args := [d1, d2, d3] }
  | _ => none }
def workerStepsRow : OpenClaim := { program := "ytnahbfmbmpoljaadoor", sum := "1bf203b3f3258158c6ef4186e884a5788716190bd7d186b3224fa11a9b7c1020", func := "pipeline/pipelinelaw28.WorkerSteps", spec := "workerSteps", inPlace := ["internal/bytealg.IndexByteString", "internal/bytealg.IndexString", "slices.overlaps[pipeline/api.Worker]"], unfollowed := true, recurses := true, named := ["internal/bytealg.MaxLen", "unicode/utf8.first", "unicode/utf8.acceptRanges"], apart := false, laid := [("unicode/utf8.acceptRanges", laid_unicode_utf8_acceptRanges), ("unicode/utf8.first", laid_unicode_utf8_first)] }
def WorkerStepsSaid : Prop := workerStepsRow.holds Tryd.pinned (OpenSpec.ofChange workerStepsSpec)

/-- ITS FALSE NEIGHBOUR: 'it returns false'. Refute it at one input. -/
def workerStepsWrong : ChangeSpec := { name := "workerSteps", fn := fun _ => fun
  | [d1, d2, d3] => { results := [.lit (.bool false)], args := [d1, d2, d3] }
  | _ => none }
def WorkerStepsWrongFalsely : Prop := workerStepsRow.holds Tryd.pinned (OpenSpec.ofChange workerStepsWrong)

/-- 'pipelinelaw28.WorkerLooks': WHATEVER THE INPUT: true; the input reads as it did. -/
def workerLooksSpec : ChangeSpec := { name := "workerLooks", fn := fun _ => fun
  | [d1, d2] => { results := [.lit (.bool true)], args := [d1, d2] }
  | _ => none }
def workerLooksRow : OpenClaim := { program := "ytnahbfmbmpoljaadoor", sum := "1bf203b3f3258158c6ef4186e884a5788716190bd7d186b3224fa11a9b7c1020", func := "pipeline/pipelinelaw28.WorkerLooks", spec := "workerLooks", inPlace := ["internal/bytealg.IndexByteString", "internal/bytealg.IndexString", "slices.overlaps[pipeline/api.Worker]"], unfollowed := true, recurses := true, named := ["internal/bytealg.MaxLen", "unicode/utf8.first", "unicode/utf8.acceptRanges"], apart := false, laid := [("unicode/utf8.acceptRanges", laid_unicode_utf8_acceptRanges), ("unicode/utf8.first", laid_unicode_utf8_first)] }
def WorkerLooksSaid : Prop := workerLooksRow.holds Tryd.pinned (OpenSpec.ofChange workerLooksSpec)

/-- ITS FALSE NEIGHBOUR: 'it returns false'. Refute it at one input. -/
def workerLooksWrong : ChangeSpec := { name := "workerLooks", fn := fun _ => fun
  | [d1, d2] => { results := [.lit (.bool false)], args := [d1, d2] }
  | _ => none }
def WorkerLooksWrongFalsely : Prop := workerLooksRow.holds Tryd.pinned (OpenSpec.ofChange workerLooksWrong)

/-- 'pipelinelaw28.WorkerPlays': WHATEVER THE INPUT: true; the input reads as it did. -/
def workerPlaysSpec : ChangeSpec := { name := "workerPlays", fn := fun _ => fun
  | [d1, d2] => { results := [.lit (.bool true)], args := [d1, d2] }
  | _ => none }
def workerPlaysRow : OpenClaim := { program := "ytnahbfmbmpoljaadoor", sum := "1bf203b3f3258158c6ef4186e884a5788716190bd7d186b3224fa11a9b7c1020", func := "pipeline/pipelinelaw28.WorkerPlays", spec := "workerPlays", inPlace := ["internal/bytealg.IndexByteString", "internal/bytealg.IndexString", "slices.overlaps[pipeline/api.Worker]", "slices.overlaps[int]"], unfollowed := true, recurses := true, named := ["internal/bytealg.MaxLen", "unicode/utf8.first", "unicode/utf8.acceptRanges"], apart := false, laid := [("unicode/utf8.acceptRanges", laid_unicode_utf8_acceptRanges), ("unicode/utf8.first", laid_unicode_utf8_first)] }
def WorkerPlaysSaid : Prop := workerPlaysRow.holds Tryd.pinned (OpenSpec.ofChange workerPlaysSpec)

/-- ITS FALSE NEIGHBOUR: 'it returns false'. Refute it at one input. -/
def workerPlaysWrong : ChangeSpec := { name := "workerPlays", fn := fun _ => fun
  | [d1, d2] => { results := [.lit (.bool false)], args := [d1, d2] }
  | _ => none }
def WorkerPlaysWrongFalsely : Prop := workerPlaysRow.holds Tryd.pinned (OpenSpec.ofChange workerPlaysWrong)

/- THE SECOND FORM. 'bulk': how many values and letters a reading holds, each counted each time it is reached (what is shared counts as often as it is met; a slice's spare places count too). A statement '..UptoSaid' is the law's where the arguments, and the package variables that the reading takes, are together of bulk at most 1048576: NARROWER than '..Said'. Prove '..Said' where nothing that the law and all that it calls make is longer than what came in: it says more and counts as full. Else prove '..UptoSaid'. A law counts once. -/
mutual
def uptoBulk {H : Type} : DataW H → Nat
  | .lit (.string bytes) => bytes.length + 1
  | .lit _ => 1
  | .nil => 1
  | .ptr d => uptoBulk d + 1
  | .slice elems spare => uptoBulkAll elems + uptoBulkAll spare + 1
  | .agg parts => uptoBulkAll parts + 1
  | .iface _ d => uptoBulk d + 1
  | .map entries => uptoBulkEntries entries + 1
  | .held _ => 1
def uptoBulkAll {H : Type} : List (DataW H) → Nat
  | [] => 0
  | d :: r => uptoBulk d + uptoBulkAll r
def uptoBulkEntries {H : Type} : List (Lit × DataW H) → Nat
  | [] => 0
  | x :: r => uptoBulkEntry x + uptoBulkEntries r
def uptoBulkEntry {H : Type} : Lit × DataW H → Nat
  | (.string bytes, d) => bytes.length + uptoBulk d + 1
  | (_, d) => uptoBulk d + 1
 end
def uptoSmall : (H : Type) → List (DataW H) → Bool := fun _ ds => decide (uptoBulkAll ds ≤ 1048576)
def OpenSpec.upto (s : _root_.Go.ChangeSpec) : _root_.Go.OpenSpec := { _root_.Go.OpenSpec.ofChange s with cond := some uptoSmall }

/-- 'pipelinelaw28.WorkerValid', WHERE WHAT IT READS IS OF BULK AT MOST 1048576: true; the input reads as it did. -/
def workerValidUptoRow : OpenClaim := { program := "ytnahbfmbmpoljaadoor", sum := "1bf203b3f3258158c6ef4186e884a5788716190bd7d186b3224fa11a9b7c1020", func := "pipeline/pipelinelaw28.WorkerValid", spec := "workerValid", inPlace := ["internal/bytealg.IndexByteString", "internal/bytealg.IndexString", "slices.overlaps[pipeline/api.Worker]"], unfollowed := true, recurses := true, named := ["internal/bytealg.MaxLen", "unicode/utf8.first", "unicode/utf8.acceptRanges"], apart := false, laid := [("unicode/utf8.acceptRanges", laid_unicode_utf8_acceptRanges), ("unicode/utf8.first", laid_unicode_utf8_first)], narrowed := true }
def WorkerValidUptoSaid : Prop := workerValidUptoRow.holds Tryd.pinned (OpenSpec.upto workerValidSpec)

/-- 'pipelinelaw28.WorkerJoins', WHERE WHAT IT READS IS OF BULK AT MOST 1048576: true; the input reads as it did. -/
def workerJoinsUptoRow : OpenClaim := { program := "ytnahbfmbmpoljaadoor", sum := "1bf203b3f3258158c6ef4186e884a5788716190bd7d186b3224fa11a9b7c1020", func := "pipeline/pipelinelaw28.WorkerJoins", spec := "workerJoins", inPlace := ["internal/bytealg.IndexByteString", "internal/bytealg.IndexString", "slices.overlaps[pipeline/api.Worker]"], unfollowed := true, recurses := true, named := ["internal/bytealg.MaxLen", "unicode/utf8.first", "unicode/utf8.acceptRanges"], apart := false, laid := [("unicode/utf8.acceptRanges", laid_unicode_utf8_acceptRanges), ("unicode/utf8.first", laid_unicode_utf8_first)], narrowed := true }
def WorkerJoinsUptoSaid : Prop := workerJoinsUptoRow.holds Tryd.pinned (OpenSpec.upto workerJoinsSpec)

/-- 'pipelinelaw28.WorkerMany', WHERE WHAT IT READS IS OF BULK AT MOST 1048576: true; the input reads as it did. -/
def workerManyUptoRow : OpenClaim := { program := "ytnahbfmbmpoljaadoor", sum := "1bf203b3f3258158c6ef4186e884a5788716190bd7d186b3224fa11a9b7c1020", func := "pipeline/pipelinelaw28.WorkerMany", spec := "workerMany", inPlace := ["internal/bytealg.IndexByteString", "internal/bytealg.IndexString", "slices.overlaps[pipeline/api.Worker]"], unfollowed := true, recurses := true, named := ["internal/bytealg.MaxLen", "unicode/utf8.first", "unicode/utf8.acceptRanges"], apart := false, laid := [("unicode/utf8.acceptRanges", laid_unicode_utf8_acceptRanges), ("unicode/utf8.first", laid_unicode_utf8_first)], narrowed := true }
def WorkerManyUptoSaid : Prop := workerManyUptoRow.holds Tryd.pinned (OpenSpec.upto workerManySpec)

/-- 'pipelinelaw28.WorkerSteps', WHERE WHAT IT READS IS OF BULK AT MOST 1048576: true; the input reads as it did. -/
def workerStepsUptoRow : OpenClaim := { program := "ytnahbfmbmpoljaadoor", sum := "1bf203b3f3258158c6ef4186e884a5788716190bd7d186b3224fa11a9b7c1020", func := "pipeline/pipelinelaw28.WorkerSteps", spec := "workerSteps", inPlace := ["internal/bytealg.IndexByteString", "internal/bytealg.IndexString", "slices.overlaps[pipeline/api.Worker]"], unfollowed := true, recurses := true, named := ["internal/bytealg.MaxLen", "unicode/utf8.first", "unicode/utf8.acceptRanges"], apart := false, laid := [("unicode/utf8.acceptRanges", laid_unicode_utf8_acceptRanges), ("unicode/utf8.first", laid_unicode_utf8_first)], narrowed := true }
def WorkerStepsUptoSaid : Prop := workerStepsUptoRow.holds Tryd.pinned (OpenSpec.upto workerStepsSpec)

/-- 'pipelinelaw28.WorkerLooks', WHERE WHAT IT READS IS OF BULK AT MOST 1048576: true; the input reads as it did. -/
def workerLooksUptoRow : OpenClaim := { program := "ytnahbfmbmpoljaadoor", sum := "1bf203b3f3258158c6ef4186e884a5788716190bd7d186b3224fa11a9b7c1020", func := "pipeline/pipelinelaw28.WorkerLooks", spec := "workerLooks", inPlace := ["internal/bytealg.IndexByteString", "internal/bytealg.IndexString", "slices.overlaps[pipeline/api.Worker]"], unfollowed := true, recurses := true, named := ["internal/bytealg.MaxLen", "unicode/utf8.first", "unicode/utf8.acceptRanges"], apart := false, laid := [("unicode/utf8.acceptRanges", laid_unicode_utf8_acceptRanges), ("unicode/utf8.first", laid_unicode_utf8_first)], narrowed := true }
def WorkerLooksUptoSaid : Prop := workerLooksUptoRow.holds Tryd.pinned (OpenSpec.upto workerLooksSpec)

/-- 'pipelinelaw28.WorkerPlays', WHERE WHAT IT READS IS OF BULK AT MOST 1048576: true; the input reads as it did. -/
def workerPlaysUptoRow : OpenClaim := { program := "ytnahbfmbmpoljaadoor", sum := "1bf203b3f3258158c6ef4186e884a5788716190bd7d186b3224fa11a9b7c1020", func := "pipeline/pipelinelaw28.WorkerPlays", spec := "workerPlays", inPlace := ["internal/bytealg.IndexByteString", "internal/bytealg.IndexString", "slices.overlaps[pipeline/api.Worker]", "slices.overlaps[int]"], unfollowed := true, recurses := true, named := ["internal/bytealg.MaxLen", "unicode/utf8.first", "unicode/utf8.acceptRanges"], apart := false, laid := [("unicode/utf8.acceptRanges", laid_unicode_utf8_acceptRanges), ("unicode/utf8.first", laid_unicode_utf8_first)], narrowed := true }
def WorkerPlaysUptoSaid : Prop := workerPlaysUptoRow.holds Tryd.pinned (OpenSpec.upto workerPlaysSpec)

end Rows
end Go.Proofs.YtnahbfmbmpoljaaDoor
