/-
  NARROWER THAN 'FOR EVERY INPUT', by the rows' own cells (each row's printed sentence says how): ProvenanceAdds: laid · ProvenanceLooks: laid · ProvenanceVerifies: laid · ProvenanceAcyclic: laid · ProvenanceSpec: loops, laid.
  DERIVED. THE GIVEN ROWS OF THIS SEAT. 5 by the template 'for every input the law returns true; each argument reads behind the call as it read before'; 0 by the template 'total and deterministic' (their statements: YtjkijknjngiieaaGreatDoorTotals.lean).
  GIVEN WITH THE SEED: the statements are not yours to turn. If you find one false, say at which input.
  Laid BY PROGRAM, IN A SANDBOX (cutbox-rows.mjs): the forced cells as the released guide's own fill.sh prints them over the translation ee938d7071b8c343… (all of the seat's roots in one cut). By AI agents, Wed Nov 11 2026. No macro, syntax, notation, axiom, sorry.
-/
import Derived.Test.YtjkijknjngiieaaGreatDoorChecked
import GoSem.PinnedTables
import GoSem.Claim
import GoSem.ClaimJoined
import GoSem.ClaimMapViews
import Derived.JoinedTies
import Derived.KernelRfl
namespace Go.Proofs.YtjkijknjngiieaaGreatDoor
/- THE CELL 'sum', in the pinned program and in every row, IS THE sha256 OF THE DUMP (.gsa) THAT YtjkijknjngiieaaGreatDoorProg.lean LOADS. Nothing in Lean hashes anything: it is a label: what it is worth is what the hold of that sum in a sandbox is worth. -/
noncomputable def Tryz.pinned : Pinned := { name := "ytjkijknjngiieaagreatdoor", sum := "ee938d7071b8c3436e78cfc4a513592995c6c37279fd11d31f2c0d7b95fbf3d2", checked := Tryz.checked }
namespace Rows
def none {H : Type} : Left H := { results := [], args := [] }

/- WHAT THE LISTED PACKAGE-LEVEL VARIABLES READ AS WHEN THE CALL BEGINS. Each datum BY PROGRAM (the guide's laid-datum.mjs) off the statement by which the dump's own 'gosem.cut.vars' lays the variable. In a bare row this is a premise. The card (YtjkijknjngiieaaGreatDoorCards.lean) ties it to the program's text. -/
def laid_unicode_utf8_acceptRanges {H : Type} : DataW H := .agg [.agg [.lit (.int .u8 128), .lit (.int .u8 191)], .agg [.lit (.int .u8 160), .lit (.int .u8 191)], .agg [.lit (.int .u8 128), .lit (.int .u8 159)], .agg [.lit (.int .u8 144), .lit (.int .u8 191)], .agg [.lit (.int .u8 128), .lit (.int .u8 143)], .agg [.lit (.int .u8 0), .lit (.int .u8 0)], .agg [.lit (.int .u8 0), .lit (.int .u8 0)], .agg [.lit (.int .u8 0), .lit (.int .u8 0)], .agg [.lit (.int .u8 0), .lit (.int .u8 0)], .agg [.lit (.int .u8 0), .lit (.int .u8 0)], .agg [.lit (.int .u8 0), .lit (.int .u8 0)], .agg [.lit (.int .u8 0), .lit (.int .u8 0)], .agg [.lit (.int .u8 0), .lit (.int .u8 0)], .agg [.lit (.int .u8 0), .lit (.int .u8 0)], .agg [.lit (.int .u8 0), .lit (.int .u8 0)], .agg [.lit (.int .u8 0), .lit (.int .u8 0)]]
/-- One of Go's own tables, pinned by name: the form's constant. -/
def laid_unicode_utf8_first : DataW Unit := Go.Pinned.utf8First

/-- 'pipelinelaw35.ProvenanceAdds': WHATEVER THE INPUT: true; the input reads as it did. -/
def provenanceAddsSpec : ChangeSpec := { name := "provenanceAdds", fn := fun _ => fun
  | [d1, d2] => { results := [.lit (.bool true)], args := [d1, d2] }
  | _ => none }
def provenanceAddsRow : OpenClaim := { program := "ytjkijknjngiieaagreatdoor", sum := "ee938d7071b8c3436e78cfc4a513592995c6c37279fd11d31f2c0d7b95fbf3d2", func := "pipeline/pipelinelaw35.ProvenanceAdds", spec := "provenanceAdds", inPlace := ["internal/bytealg.CountString", "internal/bytealg.IndexByteString", "internal/bytealg.IndexString"], unfollowed := true, recurses := true, named := ["unicode/utf8.first", "unicode/utf8.acceptRanges", "internal/bytealg.MaxLen"], plainKeys := false, apart := false, laid := [("unicode/utf8.acceptRanges", laid_unicode_utf8_acceptRanges), ("unicode/utf8.first", laid_unicode_utf8_first)] }
def ProvenanceAddsSaid : Prop := provenanceAddsRow.holds Tryz.pinned (OpenSpec.ofChange provenanceAddsSpec)

/-- ITS FALSE NEIGHBOUR: 'it returns false'. Refute it at one input. -/
def provenanceAddsWrong : ChangeSpec := { name := "provenanceAdds", fn := fun _ => fun
  | [d1, d2] => { results := [.lit (.bool false)], args := [d1, d2] }
  | _ => none }
def ProvenanceAddsWrongFalsely : Prop := provenanceAddsRow.holds Tryz.pinned (OpenSpec.ofChange provenanceAddsWrong)

/-- 'pipelinelaw35.ProvenanceLooks': WHATEVER THE INPUT: true; the input reads as it did. -/
def provenanceLooksSpec : ChangeSpec := { name := "provenanceLooks", fn := fun _ => fun
  | [d1, d2, d3] => { results := [.lit (.bool true)], args := [d1, d2, d3] }
  | _ => none }
def provenanceLooksRow : OpenClaim := { program := "ytjkijknjngiieaagreatdoor", sum := "ee938d7071b8c3436e78cfc4a513592995c6c37279fd11d31f2c0d7b95fbf3d2", func := "pipeline/pipelinelaw35.ProvenanceLooks", spec := "provenanceLooks", inPlace := ["internal/bytealg.CountString", "internal/bytealg.IndexByteString", "internal/bytealg.IndexString"], unfollowed := true, recurses := true, named := ["unicode/utf8.first", "unicode/utf8.acceptRanges", "internal/bytealg.MaxLen"], plainKeys := false, apart := false, laid := [("unicode/utf8.acceptRanges", laid_unicode_utf8_acceptRanges), ("unicode/utf8.first", laid_unicode_utf8_first)] }
def ProvenanceLooksSaid : Prop := provenanceLooksRow.holds Tryz.pinned (OpenSpec.ofChange provenanceLooksSpec)

/-- ITS FALSE NEIGHBOUR: 'it returns false'. Refute it at one input. -/
def provenanceLooksWrong : ChangeSpec := { name := "provenanceLooks", fn := fun _ => fun
  | [d1, d2, d3] => { results := [.lit (.bool false)], args := [d1, d2, d3] }
  | _ => none }
def ProvenanceLooksWrongFalsely : Prop := provenanceLooksRow.holds Tryz.pinned (OpenSpec.ofChange provenanceLooksWrong)

/-- 'pipelinelaw35.ProvenanceVerifies': WHATEVER THE INPUT: true; the input reads as it did. -/
def provenanceVerifiesSpec : ChangeSpec := { name := "provenanceVerifies", fn := fun _ => fun
  | [d] => { results := [.lit (.bool true)], args := [d] }
  | _ => none }
def provenanceVerifiesRow : OpenClaim := { program := "ytjkijknjngiieaagreatdoor", sum := "ee938d7071b8c3436e78cfc4a513592995c6c37279fd11d31f2c0d7b95fbf3d2", func := "pipeline/pipelinelaw35.ProvenanceVerifies", spec := "provenanceVerifies", inPlace := ["internal/bytealg.CountString", "internal/bytealg.IndexByteString", "internal/bytealg.IndexString"], unfollowed := true, recurses := true, named := ["unicode/utf8.first", "unicode/utf8.acceptRanges", "internal/bytealg.MaxLen"], plainKeys := false, apart := false, laid := [("unicode/utf8.acceptRanges", laid_unicode_utf8_acceptRanges), ("unicode/utf8.first", laid_unicode_utf8_first)] }
def ProvenanceVerifiesSaid : Prop := provenanceVerifiesRow.holds Tryz.pinned (OpenSpec.ofChange provenanceVerifiesSpec)

/-- ITS FALSE NEIGHBOUR: 'it returns false'. Refute it at one input. -/
def provenanceVerifiesWrong : ChangeSpec := { name := "provenanceVerifies", fn := fun _ => fun
  | [d] => { results := [.lit (.bool false)], args := [d] }
  | _ => none }
def ProvenanceVerifiesWrongFalsely : Prop := provenanceVerifiesRow.holds Tryz.pinned (OpenSpec.ofChange provenanceVerifiesWrong)

/-- 'pipelinelaw35.ProvenanceAcyclic': WHATEVER THE INPUT: true; the input reads as it did. -/
def provenanceAcyclicSpec : ChangeSpec := { name := "provenanceAcyclic", fn := fun _ => fun
  | [d] => { results := [.lit (.bool true)], args := [d] }
  | _ => none }
def provenanceAcyclicRow : OpenClaim := { program := "ytjkijknjngiieaagreatdoor", sum := "ee938d7071b8c3436e78cfc4a513592995c6c37279fd11d31f2c0d7b95fbf3d2", func := "pipeline/pipelinelaw35.ProvenanceAcyclic", spec := "provenanceAcyclic", inPlace := ["internal/bytealg.CountString", "internal/bytealg.IndexByteString", "internal/bytealg.IndexString"], unfollowed := true, recurses := true, named := ["unicode/utf8.first", "unicode/utf8.acceptRanges", "internal/bytealg.MaxLen"], plainKeys := false, apart := false, laid := [("unicode/utf8.acceptRanges", laid_unicode_utf8_acceptRanges), ("unicode/utf8.first", laid_unicode_utf8_first)] }
def ProvenanceAcyclicSaid : Prop := provenanceAcyclicRow.holds Tryz.pinned (OpenSpec.ofChange provenanceAcyclicSpec)

/-- ITS FALSE NEIGHBOUR: 'it returns false'. Refute it at one input. -/
def provenanceAcyclicWrong : ChangeSpec := { name := "provenanceAcyclic", fn := fun _ => fun
  | [d] => { results := [.lit (.bool false)], args := [d] }
  | _ => none }
def ProvenanceAcyclicWrongFalsely : Prop := provenanceAcyclicRow.holds Tryz.pinned (OpenSpec.ofChange provenanceAcyclicWrong)

/-- 'pipelinelaw35.ProvenanceSpec': WHATEVER THE INPUT: true; the input reads as it did. -/
def provenanceSpecSpec : ChangeSpec := { name := "provenanceSpec", fn := fun _ => fun
  | [d1, d2] => { results := [.lit (.bool true)], args := [d1, d2] }
  | _ => none }
def provenanceSpecRow : OpenClaim := { program := "ytjkijknjngiieaagreatdoor", sum := "ee938d7071b8c3436e78cfc4a513592995c6c37279fd11d31f2c0d7b95fbf3d2", func := "pipeline/pipelinelaw35.ProvenanceSpec", spec := "provenanceSpec", inPlace := ["internal/bytealg.CountString", "internal/bytealg.IndexByteString", "internal/bytealg.IndexString"], unfollowed := true, recurses := true, named := ["unicode/utf8.first", "unicode/utf8.acceptRanges", "internal/bytealg.MaxLen"], loops := true, plainKeys := false, apart := false, laid := [("unicode/utf8.acceptRanges", laid_unicode_utf8_acceptRanges), ("unicode/utf8.first", laid_unicode_utf8_first)] }
def ProvenanceSpecSaid : Prop := provenanceSpecRow.holds Tryz.pinned (OpenSpec.ofChange provenanceSpecSpec)

/-- ITS FALSE NEIGHBOUR: 'it returns false'. Refute it at one input. -/
def provenanceSpecWrong : ChangeSpec := { name := "provenanceSpec", fn := fun _ => fun
  | [d1, d2] => { results := [.lit (.bool false)], args := [d1, d2] }
  | _ => none }
def ProvenanceSpecWrongFalsely : Prop := provenanceSpecRow.holds Tryz.pinned (OpenSpec.ofChange provenanceSpecWrong)

/- THE SECOND FORM. 'bulk': how many values and letters a reading holds, each counted each time it is reached (what is shared counts as often as it is met; a slice's spare places count too). A statement '..UptoSaid' is the law's where the arguments, and the package variables that the reading takes, are together of bulk at most 1048576: NARROWER than '..Said'. Prove '..Said' where nothing that the law and all that it calls make is longer than what came in: it says more and counts as full. Else prove '..UptoSaid'. A law counts once. -/
mutual
def uptoBulk {H : Type} : DataW H → Nat
  | .lit (.string bytes) => bytes.length + 1
  | .lit _ => 1
  | .nil => 1
  | .ptr d => uptoBulk d + 1
  | .slice elems spare => uptoBulkAll elems + uptoBulkAll spare + 1
  | .agg parts => uptoBulkAll parts + 1
  | .iface _ d => uptoBulk d + 1
  | .map entries => uptoBulkEntries entries + 1
  | .held _ => 1
def uptoBulkAll {H : Type} : List (DataW H) → Nat
  | [] => 0
  | d :: r => uptoBulk d + uptoBulkAll r
def uptoBulkEntries {H : Type} : List (Lit × DataW H) → Nat
  | [] => 0
  | x :: r => uptoBulkEntry x + uptoBulkEntries r
def uptoBulkEntry {H : Type} : Lit × DataW H → Nat
  | (.string bytes, d) => bytes.length + uptoBulk d + 1
  | (_, d) => uptoBulk d + 1
 end
def uptoSmall : (H : Type) → List (DataW H) → Bool := fun _ ds => decide (uptoBulkAll ds ≤ 1048576)
def OpenSpec.upto (s : _root_.Go.ChangeSpec) : _root_.Go.OpenSpec := { _root_.Go.OpenSpec.ofChange s with cond := some uptoSmall }

/-- 'pipelinelaw35.ProvenanceAdds', WHERE WHAT IT READS IS OF BULK AT MOST 1048576: true; the input reads as it did. -/
def provenanceAddsUptoRow : OpenClaim := { program := "ytjkijknjngiieaagreatdoor", sum := "ee938d7071b8c3436e78cfc4a513592995c6c37279fd11d31f2c0d7b95fbf3d2", func := "pipeline/pipelinelaw35.ProvenanceAdds", spec := "provenanceAdds", inPlace := ["internal/bytealg.CountString", "internal/bytealg.IndexByteString", "internal/bytealg.IndexString"], unfollowed := true, recurses := true, named := ["unicode/utf8.first", "unicode/utf8.acceptRanges", "internal/bytealg.MaxLen"], plainKeys := false, apart := false, laid := [("unicode/utf8.acceptRanges", laid_unicode_utf8_acceptRanges), ("unicode/utf8.first", laid_unicode_utf8_first)], narrowed := true }
def ProvenanceAddsUptoSaid : Prop := provenanceAddsUptoRow.holds Tryz.pinned (OpenSpec.upto provenanceAddsSpec)

/-- 'pipelinelaw35.ProvenanceLooks', WHERE WHAT IT READS IS OF BULK AT MOST 1048576: true; the input reads as it did. -/
def provenanceLooksUptoRow : OpenClaim := { program := "ytjkijknjngiieaagreatdoor", sum := "ee938d7071b8c3436e78cfc4a513592995c6c37279fd11d31f2c0d7b95fbf3d2", func := "pipeline/pipelinelaw35.ProvenanceLooks", spec := "provenanceLooks", inPlace := ["internal/bytealg.CountString", "internal/bytealg.IndexByteString", "internal/bytealg.IndexString"], unfollowed := true, recurses := true, named := ["unicode/utf8.first", "unicode/utf8.acceptRanges", "internal/bytealg.MaxLen"], plainKeys := false, apart := false, laid := [("unicode/utf8.acceptRanges", laid_unicode_utf8_acceptRanges), ("unicode/utf8.first", laid_unicode_utf8_first)], narrowed := true }
def ProvenanceLooksUptoSaid : Prop := provenanceLooksUptoRow.holds Tryz.pinned (OpenSpec.upto provenanceLooksSpec)

/-- 'pipelinelaw35.ProvenanceVerifies', WHERE WHAT IT READS IS OF BULK AT MOST 1048576: true; the input reads as it did. -/
def provenanceVerifiesUptoRow : OpenClaim := { program := "ytjkijknjngiieaagreatdoor", sum := "ee938d7071b8c3436e78cfc4a513592995c6c37279fd11d31f2c0d7b95fbf3d2", func := "pipeline/pipelinelaw35.ProvenanceVerifies", spec := "provenanceVerifies", inPlace := ["internal/bytealg.CountString", "internal/bytealg.IndexByteString", "internal/bytealg.IndexString"], unfollowed := true, recurses := true, named := ["unicode/utf8.first", "unicode/utf8.acceptRanges", "internal/bytealg.MaxLen"], plainKeys := false, apart := false, laid := [("unicode/utf8.acceptRanges", laid_unicode_utf8_acceptRanges), ("unicode/utf8.first", laid_unicode_utf8_first)], narrowed := true }
def ProvenanceVerifiesUptoSaid : Prop := provenanceVerifiesUptoRow.holds Tryz.pinned (OpenSpec.upto provenanceVerifiesSpec)

/-- 'pipelinelaw35.ProvenanceAcyclic', WHERE WHAT IT READS IS OF BULK AT MOST 1048576: true; the input reads as it did. -/
def provenanceAcyclicUptoRow : OpenClaim := { program := "ytjkijknjngiieaagreatdoor", sum := "ee938d7071b8c3436e78cfc4a513592995c6c37279fd11d31f2c0d7b95fbf3d2", func := "pipeline/pipelinelaw35.ProvenanceAcyclic", spec := "provenanceAcyclic", inPlace := ["internal/bytealg.CountString", "internal/bytealg.IndexByteString", "internal/bytealg.IndexString"], unfollowed := true, recurses := true, named := ["unicode/utf8.first", "unicode/utf8.acceptRanges", "internal/bytealg.MaxLen"], plainKeys := false, apart := false, laid := [("unicode/utf8.acceptRanges", laid_unicode_utf8_acceptRanges), ("unicode/utf8.first", laid_unicode_utf8_first)], narrowed := true }
def ProvenanceAcyclicUptoSaid : Prop := provenanceAcyclicUptoRow.holds Tryz.pinned (OpenSpec.upto provenanceAcyclicSpec)

/-- 'pipelinelaw35.ProvenanceSpec', WHERE WHAT IT READS IS OF BULK AT MOST 1048576: true; the input reads as it did. -/
def provenanceSpecUptoRow : OpenClaim := { program := "ytjkijknjngiieaagreatdoor", sum := "ee938d7071b8c3436e78cfc4a513592995c6c37279fd11d31f2c0d7b95fbf3d2", func := "pipeline/pipelinelaw35.ProvenanceSpec", spec := "provenanceSpec", inPlace := ["internal/bytealg.CountString", "internal/bytealg.IndexByteString", "internal/bytealg.IndexString"], unfollowed := true, recurses := true, named := ["unicode/utf8.first", "unicode/utf8.acceptRanges", "internal/bytealg.MaxLen"], loops := true, plainKeys := false, apart := false, laid := [("unicode/utf8.acceptRanges", laid_unicode_utf8_acceptRanges), ("unicode/utf8.first", laid_unicode_utf8_first)], narrowed := true }
def ProvenanceSpecUptoSaid : Prop := provenanceSpecUptoRow.holds Tryz.pinned (OpenSpec.upto provenanceSpecSpec)

end Rows
end Go.Proofs.YtjkijknjngiieaaGreatDoor
