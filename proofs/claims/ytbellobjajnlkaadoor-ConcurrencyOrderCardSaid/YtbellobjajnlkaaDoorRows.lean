/-
  NARROWER THAN 'FOR EVERY INPUT', by the rows' own cells (each row's printed sentence says how): ConcurrencyValid: laid · ConcurrencyEnters: laid · ConcurrencyPolicies: laid · ConcurrencyMoves: laid · ConcurrencyPlays: laid · ConcurrencyOrder: laid.
  DERIVED. THE GIVEN ROWS OF THIS SEAT. 6 by the template 'for every input the law returns true; each argument reads behind the call as it read before'; 0 by the template 'total and deterministic' (their statements: YtbellobjajnlkaaDoorTotals.lean).
  GIVEN WITH THE SEED: the statements are not yours to turn. If you find one false, say at which input.
  Laid BY PROGRAM, IN A SANDBOX (cutbox-rows.mjs): the forced cells as the released guide's own fill.sh prints them over the translation 14878fdf8ce7c1d9… (all of the seat's roots in one cut). By AI agents, Wed Nov 11 2026. No macro, syntax, notation, axiom, sorry.
-/
import Derived.Test.YtbellobjajnlkaaDoorChecked
import GoSem.PinnedTables
import GoSem.Claim
import GoSem.ClaimJoined
import GoSem.ClaimMapViews
import Derived.JoinedTies
import Derived.KernelRfl
namespace Go.Proofs.YtbellobjajnlkaaDoor
/- THE CELL 'sum', in the pinned program and in every row, IS THE sha256 OF THE DUMP (.gsa) THAT YtbellobjajnlkaaDoorProg.lean LOADS. Nothing in Lean hashes anything: it is a label: what it is worth is what the hold of that sum in a sandbox is worth. -/
noncomputable def Tryd.pinned : Pinned := { name := "ytbellobjajnlkaadoor", sum := "14878fdf8ce7c1d910b4fadeba695a6c7a3ee6d6146d6c52cb65fe0ebe1c9653", checked := Tryd.checked }
namespace Rows
def none {H : Type} : Left H := { results := [], args := [] }

/- WHAT THE LISTED PACKAGE-LEVEL VARIABLES READ AS WHEN THE CALL BEGINS. Each datum BY PROGRAM (the guide's laid-datum.mjs) off the statement by which the dump's own 'gosem.cut.vars' lays the variable. In a bare row this is a premise. The card (YtbellobjajnlkaaDoorCards.lean) ties it to the program's text. -/
def laid_unicode_utf8_acceptRanges {H : Type} : DataW H := .agg [.agg [.lit (.int .u8 128), .lit (.int .u8 191)], .agg [.lit (.int .u8 160), .lit (.int .u8 191)], .agg [.lit (.int .u8 128), .lit (.int .u8 159)], .agg [.lit (.int .u8 144), .lit (.int .u8 191)], .agg [.lit (.int .u8 128), .lit (.int .u8 143)], .agg [.lit (.int .u8 0), .lit (.int .u8 0)], .agg [.lit (.int .u8 0), .lit (.int .u8 0)], .agg [.lit (.int .u8 0), .lit (.int .u8 0)], .agg [.lit (.int .u8 0), .lit (.int .u8 0)], .agg [.lit (.int .u8 0), .lit (.int .u8 0)], .agg [.lit (.int .u8 0), .lit (.int .u8 0)], .agg [.lit (.int .u8 0), .lit (.int .u8 0)], .agg [.lit (.int .u8 0), .lit (.int .u8 0)], .agg [.lit (.int .u8 0), .lit (.int .u8 0)], .agg [.lit (.int .u8 0), .lit (.int .u8 0)], .agg [.lit (.int .u8 0), .lit (.int .u8 0)]]
/-- One of Go's own tables, pinned by name: the form's constant. -/
def laid_unicode_utf8_first : DataW Unit := Go.Pinned.utf8First

/-- 'pipelinelaw24.ConcurrencyValid': WHATEVER THE INPUT: true; the input reads as it did. -/
def concurrencyValidSpec : ChangeSpec := { name := "concurrencyValid", fn := fun _ => fun
  | [d] => { results := [.lit (.bool true)], args := [d] }
  | _ => none }
def concurrencyValidRow : OpenClaim := { program := "ytbellobjajnlkaadoor", sum := "14878fdf8ce7c1d910b4fadeba695a6c7a3ee6d6146d6c52cb65fe0ebe1c9653", func := "pipeline/pipelinelaw24.ConcurrencyValid", spec := "concurrencyValid", inPlace := ["internal/bytealg.CountString", "internal/bytealg.IndexByteString", "internal/bytealg.IndexString", "slices.overlaps[pipeline/api.Group]"], unfollowed := true, recurses := true, named := ["unicode/utf8.first", "unicode/utf8.acceptRanges", "internal/bytealg.MaxLen"], plainKeys := false, apart := false, laid := [("unicode/utf8.acceptRanges", laid_unicode_utf8_acceptRanges), ("unicode/utf8.first", laid_unicode_utf8_first)] }
def ConcurrencyValidSaid : Prop := concurrencyValidRow.holds Tryd.pinned (OpenSpec.ofChange concurrencyValidSpec)

/-- ITS FALSE NEIGHBOUR: 'it returns false'. Refute it at one input. -/
def concurrencyValidWrong : ChangeSpec := { name := "concurrencyValid", fn := fun _ => fun
  | [d] => { results := [.lit (.bool false)], args := [d] }
  | _ => none }
def ConcurrencyValidWrongFalsely : Prop := concurrencyValidRow.holds Tryd.pinned (OpenSpec.ofChange concurrencyValidWrong)

/-- 'pipelinelaw24.ConcurrencyEnters': WHATEVER THE INPUT: true; the input reads as it did. -/
def concurrencyEntersSpec : ChangeSpec := { name := "concurrencyEnters", fn := fun _ => fun
  | [d1, d2] => { results := [.lit (.bool true)], args := [d1, d2] }
  | _ => none }
def concurrencyEntersRow : OpenClaim := { program := "ytbellobjajnlkaadoor", sum := "14878fdf8ce7c1d910b4fadeba695a6c7a3ee6d6146d6c52cb65fe0ebe1c9653", func := "pipeline/pipelinelaw24.ConcurrencyEnters", spec := "concurrencyEnters", inPlace := ["internal/bytealg.CountString", "internal/bytealg.IndexByteString", "internal/bytealg.IndexString", "slices.overlaps[pipeline/api.Group]"], unfollowed := true, recurses := true, named := ["unicode/utf8.first", "unicode/utf8.acceptRanges", "internal/bytealg.MaxLen"], plainKeys := false, apart := false, laid := [("unicode/utf8.acceptRanges", laid_unicode_utf8_acceptRanges), ("unicode/utf8.first", laid_unicode_utf8_first)] }
def ConcurrencyEntersSaid : Prop := concurrencyEntersRow.holds Tryd.pinned (OpenSpec.ofChange concurrencyEntersSpec)

/-- ITS FALSE NEIGHBOUR: 'it returns false'. Refute it at one input. -/
def concurrencyEntersWrong : ChangeSpec := { name := "concurrencyEnters", fn := fun _ => fun
  | [d1, d2] => { results := [.lit (.bool false)], args := [d1, d2] }
  | _ => none }
def ConcurrencyEntersWrongFalsely : Prop := concurrencyEntersRow.holds Tryd.pinned (OpenSpec.ofChange concurrencyEntersWrong)

/-- 'pipelinelaw24.ConcurrencyPolicies': WHATEVER THE INPUT: true; the input reads as it did. -/
def concurrencyPoliciesSpec : ChangeSpec := { name := "concurrencyPolicies", fn := fun _ => fun
  | [d1, d2] => { results := [.lit (.bool true)], args := [d1, d2] }
  | _ => none }
def concurrencyPoliciesRow : OpenClaim := { program := "ytbellobjajnlkaadoor", sum := "14878fdf8ce7c1d910b4fadeba695a6c7a3ee6d6146d6c52cb65fe0ebe1c9653", func := "pipeline/pipelinelaw24.ConcurrencyPolicies", spec := "concurrencyPolicies", inPlace := ["internal/bytealg.CountString", "internal/bytealg.IndexByteString", "internal/bytealg.IndexString", "slices.overlaps[pipeline/api.Group]"], unfollowed := true, recurses := true, named := ["unicode/utf8.first", "unicode/utf8.acceptRanges", "internal/bytealg.MaxLen"], plainKeys := false, apart := false, laid := [("unicode/utf8.acceptRanges", laid_unicode_utf8_acceptRanges), ("unicode/utf8.first", laid_unicode_utf8_first)] }
def ConcurrencyPoliciesSaid : Prop := concurrencyPoliciesRow.holds Tryd.pinned (OpenSpec.ofChange concurrencyPoliciesSpec)

/-- ITS FALSE NEIGHBOUR: 'it returns false'. Refute it at one input. -/
def concurrencyPoliciesWrong : ChangeSpec := { name := "concurrencyPolicies", fn := fun _ => fun
  | [d1, d2] => { results := [.lit (.bool false)], args := [d1, d2] }
  | _ => none }
def ConcurrencyPoliciesWrongFalsely : Prop := concurrencyPoliciesRow.holds Tryd.pinned (OpenSpec.ofChange concurrencyPoliciesWrong)

/-- 'pipelinelaw24.ConcurrencyMoves': WHATEVER THE INPUT: true; the input reads as it did. -/
def concurrencyMovesSpec : ChangeSpec := { name := "concurrencyMoves", fn := fun _ => fun
  | [d1, d2, d3] => { results := [.lit (.bool true)], args := [d1, d2, d3] }
  | _ => none }
def concurrencyMovesRow : OpenClaim := { program := "ytbellobjajnlkaadoor", sum := "14878fdf8ce7c1d910b4fadeba695a6c7a3ee6d6146d6c52cb65fe0ebe1c9653", func := "pipeline/pipelinelaw24.ConcurrencyMoves", spec := "concurrencyMoves", inPlace := ["internal/bytealg.CountString", "internal/bytealg.IndexByteString", "internal/bytealg.IndexString", "slices.overlaps[pipeline/api.Group]"], unfollowed := true, recurses := true, named := ["unicode/utf8.first", "unicode/utf8.acceptRanges", "internal/bytealg.MaxLen"], plainKeys := false, apart := false, laid := [("unicode/utf8.acceptRanges", laid_unicode_utf8_acceptRanges), ("unicode/utf8.first", laid_unicode_utf8_first)] }
def ConcurrencyMovesSaid : Prop := concurrencyMovesRow.holds Tryd.pinned (OpenSpec.ofChange concurrencyMovesSpec)

/-- ITS FALSE NEIGHBOUR: 'it returns false'. Refute it at one input. -/
def concurrencyMovesWrong : ChangeSpec := { name := "concurrencyMoves", fn := fun _ => fun
  | [d1, d2, d3] => { results := [.lit (.bool false)], args := [d1, d2, d3] }
  | _ => none }
def ConcurrencyMovesWrongFalsely : Prop := concurrencyMovesRow.holds Tryd.pinned (OpenSpec.ofChange concurrencyMovesWrong)

/-- 'pipelinelaw24.ConcurrencyPlays': WHATEVER THE INPUT: true; the input reads as it did. -/
def concurrencyPlaysSpec : ChangeSpec := { name := "concurrencyPlays", fn := fun _ => fun
  | [d] => { results := [.lit (.bool true)], args := [d] }
  | _ => none }
def concurrencyPlaysRow : OpenClaim := { program := "ytbellobjajnlkaadoor", sum := "14878fdf8ce7c1d910b4fadeba695a6c7a3ee6d6146d6c52cb65fe0ebe1c9653", func := "pipeline/pipelinelaw24.ConcurrencyPlays", spec := "concurrencyPlays", inPlace := ["internal/bytealg.CountString", "internal/bytealg.IndexByteString", "internal/bytealg.IndexString", "slices.overlaps[pipeline/api.Group]"], unfollowed := true, recurses := true, named := ["unicode/utf8.first", "unicode/utf8.acceptRanges", "internal/bytealg.MaxLen"], plainKeys := false, apart := false, laid := [("unicode/utf8.acceptRanges", laid_unicode_utf8_acceptRanges), ("unicode/utf8.first", laid_unicode_utf8_first)] }
def ConcurrencyPlaysSaid : Prop := concurrencyPlaysRow.holds Tryd.pinned (OpenSpec.ofChange concurrencyPlaysSpec)

/-- ITS FALSE NEIGHBOUR: 'it returns false'. Refute it at one input. -/
def concurrencyPlaysWrong : ChangeSpec := { name := "concurrencyPlays", fn := fun _ => fun
  | [d] => { results := [.lit (.bool false)], args := [d] }
  | _ => none }
def ConcurrencyPlaysWrongFalsely : Prop := concurrencyPlaysRow.holds Tryd.pinned (OpenSpec.ofChange concurrencyPlaysWrong)

/-- 'pipelinelaw24.ConcurrencyOrder': WHATEVER THE INPUT: true; the input reads as it did. -/
def concurrencyOrderSpec : ChangeSpec := { name := "concurrencyOrder", fn := fun _ => fun
  | [d] => { results := [.lit (.bool true)], args := [d] }
  | _ => none }
def concurrencyOrderRow : OpenClaim := { program := "ytbellobjajnlkaadoor", sum := "14878fdf8ce7c1d910b4fadeba695a6c7a3ee6d6146d6c52cb65fe0ebe1c9653", func := "pipeline/pipelinelaw24.ConcurrencyOrder", spec := "concurrencyOrder", inPlace := ["internal/bytealg.CountString", "internal/bytealg.IndexByteString", "internal/bytealg.IndexString", "slices.overlaps[pipeline/api.Group]"], unfollowed := true, recurses := true, named := ["unicode/utf8.first", "unicode/utf8.acceptRanges", "internal/bytealg.MaxLen"], plainKeys := false, apart := false, laid := [("unicode/utf8.acceptRanges", laid_unicode_utf8_acceptRanges), ("unicode/utf8.first", laid_unicode_utf8_first)] }
def ConcurrencyOrderSaid : Prop := concurrencyOrderRow.holds Tryd.pinned (OpenSpec.ofChange concurrencyOrderSpec)

/-- ITS FALSE NEIGHBOUR: 'it returns false'. Refute it at one input. -/
def concurrencyOrderWrong : ChangeSpec := { name := "concurrencyOrder", fn := fun _ => fun
  | [d] => { results := [.lit (.bool false)], args := [d] }
  | _ => none }
def ConcurrencyOrderWrongFalsely : Prop := concurrencyOrderRow.holds Tryd.pinned (OpenSpec.ofChange concurrencyOrderWrong)

/- THE SECOND FORM. 'bulk': how many values and letters a reading holds, each counted each time it is reached (what is shared counts as often as it is met; a slice's spare places count too). A statement '..UptoSaid' is the law's where the arguments, and the package variables that the reading takes, are together of bulk at most 1048576: NARROWER than '..Said'. Prove '..Said' where nothing that the law and all that it calls make is longer than what came in: it says more and counts as full. Else prove '..UptoSaid'. A law counts once. -/
mutual
def uptoBulk {H : Type} : DataW H → Nat
  | .lit (.string bytes) => bytes.length + 1
  | .lit _ => 1
  | .nil => 1
  | .ptr d => uptoBulk d + 1
  | .slice elems spare => uptoBulkAll elems + uptoBulkAll spare + 1
  | .agg parts => uptoBulkAll parts + 1
  | .iface _ d => uptoBulk d + 1
  | .map entries => uptoBulkEntries entries + 1
  | .held _ => 1
def uptoBulkAll {H : Type} : List (DataW H) → Nat
  | [] => 0
  | d :: r => uptoBulk d + uptoBulkAll r
def uptoBulkEntries {H : Type} : List (Lit × DataW H) → Nat
  | [] => 0
  | x :: r => uptoBulkEntry x + uptoBulkEntries r
def uptoBulkEntry {H : Type} : Lit × DataW H → Nat
  | (.string bytes, d) => bytes.length + uptoBulk d + 1
  | (_, d) => uptoBulk d + 1
 end
def uptoSmall : (H : Type) → List (DataW H) → Bool := fun _ ds => decide (uptoBulkAll ds ≤ 1048576)
def OpenSpec.upto (s : _root_.Go.ChangeSpec) : _root_.Go.OpenSpec := { _root_.Go.OpenSpec.ofChange s with cond := some uptoSmall }

/-- 'pipelinelaw24.ConcurrencyValid', WHERE WHAT IT READS IS OF BULK AT MOST 1048576: true; the input reads as it did. -/
def concurrencyValidUptoRow : OpenClaim := { program := "ytbellobjajnlkaadoor", sum := "14878fdf8ce7c1d910b4fadeba695a6c7a3ee6d6146d6c52cb65fe0ebe1c9653", func := "pipeline/pipelinelaw24.ConcurrencyValid", spec := "concurrencyValid", inPlace := ["internal/bytealg.CountString", "internal/bytealg.IndexByteString", "internal/bytealg.IndexString", "slices.overlaps[pipeline/api.Group]"], unfollowed := true, recurses := true, named := ["unicode/utf8.first", "unicode/utf8.acceptRanges", "internal/bytealg.MaxLen"], plainKeys := false, apart := false, laid := [("unicode/utf8.acceptRanges", laid_unicode_utf8_acceptRanges), ("unicode/utf8.first", laid_unicode_utf8_first)], narrowed := true }
def ConcurrencyValidUptoSaid : Prop := concurrencyValidUptoRow.holds Tryd.pinned (OpenSpec.upto concurrencyValidSpec)

/-- 'pipelinelaw24.ConcurrencyEnters', WHERE WHAT IT READS IS OF BULK AT MOST 1048576: true; the input reads as it did. -/
def concurrencyEntersUptoRow : OpenClaim := { program := "ytbellobjajnlkaadoor", sum := "14878fdf8ce7c1d910b4fadeba695a6c7a3ee6d6146d6c52cb65fe0ebe1c9653", func := "pipeline/pipelinelaw24.ConcurrencyEnters", spec := "concurrencyEnters", inPlace := ["internal/bytealg.CountString", "internal/bytealg.IndexByteString", "internal/bytealg.IndexString", "slices.overlaps[pipeline/api.Group]"], unfollowed := true, recurses := true, named := ["unicode/utf8.first", "unicode/utf8.acceptRanges", "internal/bytealg.MaxLen"], plainKeys := false, apart := false, laid := [("unicode/utf8.acceptRanges", laid_unicode_utf8_acceptRanges), ("unicode/utf8.first", laid_unicode_utf8_first)], narrowed := true }
def ConcurrencyEntersUptoSaid : Prop := concurrencyEntersUptoRow.holds Tryd.pinned (OpenSpec.upto concurrencyEntersSpec)

/-- 'pipelinelaw24.ConcurrencyPolicies', WHERE WHAT IT READS IS OF BULK AT MOST 1048576: true; the input reads as it did. -/
def concurrencyPoliciesUptoRow : OpenClaim := { program := "ytbellobjajnlkaadoor", sum := "14878fdf8ce7c1d910b4fadeba695a6c7a3ee6d6146d6c52cb65fe0ebe1c9653", func := "pipeline/pipelinelaw24.ConcurrencyPolicies", spec := "concurrencyPolicies", inPlace := ["internal/bytealg.CountString", "internal/bytealg.IndexByteString", "internal/bytealg.IndexString", "slices.overlaps[pipeline/api.Group]"], unfollowed := true, recurses := true, named := ["unicode/utf8.first", "unicode/utf8.acceptRanges", "internal/bytealg.MaxLen"], plainKeys := false, apart := false, laid := [("unicode/utf8.acceptRanges", laid_unicode_utf8_acceptRanges), ("unicode/utf8.first", laid_unicode_utf8_first)], narrowed := true }
def ConcurrencyPoliciesUptoSaid : Prop := concurrencyPoliciesUptoRow.holds Tryd.pinned (OpenSpec.upto concurrencyPoliciesSpec)

/-- 'pipelinelaw24.ConcurrencyMoves', WHERE WHAT IT READS IS OF BULK AT MOST 1048576: true; the input reads as it did. -/
def concurrencyMovesUptoRow : OpenClaim := { program := "ytbellobjajnlkaadoor", sum := "14878fdf8ce7c1d910b4fadeba695a6c7a3ee6d6146d6c52cb65fe0ebe1c9653", func := "pipeline/pipelinelaw24.ConcurrencyMoves", spec := "concurrencyMoves", inPlace := ["internal/bytealg.CountString", "internal/bytealg.IndexByteString", "internal/bytealg.IndexString", "slices.overlaps[pipeline/api.Group]"], unfollowed := true, recurses := true, named := ["unicode/utf8.first", "unicode/utf8.acceptRanges", "internal/bytealg.MaxLen"], plainKeys := false, apart := false, laid := [("unicode/utf8.acceptRanges", laid_unicode_utf8_acceptRanges), ("unicode/utf8.first", laid_unicode_utf8_first)], narrowed := true }
def ConcurrencyMovesUptoSaid : Prop := concurrencyMovesUptoRow.holds Tryd.pinned (OpenSpec.upto concurrencyMovesSpec)

/-- 'pipelinelaw24.ConcurrencyPlays', WHERE WHAT IT READS IS OF BULK AT MOST 1048576: true; the input reads as it did. -/
def concurrencyPlaysUptoRow : OpenClaim := { program := "ytbellobjajnlkaadoor", sum := "14878fdf8ce7c1d910b4fadeba695a6c7a3ee6d6146d6c52cb65fe0ebe1c9653", func := "pipeline/pipelinelaw24.ConcurrencyPlays", spec := "concurrencyPlays", inPlace := ["internal/bytealg.CountString", "internal/bytealg.IndexByteString", "internal/bytealg.IndexString", "slices.overlaps[pipeline/api.Group]"], unfollowed := true, recurses := true, named := ["unicode/utf8.first", "unicode/utf8.acceptRanges", "internal/bytealg.MaxLen"], plainKeys := false, apart := false, laid := [("unicode/utf8.acceptRanges", laid_unicode_utf8_acceptRanges), ("unicode/utf8.first", laid_unicode_utf8_first)], narrowed := true }
def ConcurrencyPlaysUptoSaid : Prop := concurrencyPlaysUptoRow.holds Tryd.pinned (OpenSpec.upto concurrencyPlaysSpec)

/-- 'pipelinelaw24.ConcurrencyOrder', WHERE WHAT IT READS IS OF BULK AT MOST 1048576: true; the input reads as it did. -/
def concurrencyOrderUptoRow : OpenClaim := { program := "ytbellobjajnlkaadoor", sum := "14878fdf8ce7c1d910b4fadeba695a6c7a3ee6d6146d6c52cb65fe0ebe1c9653", func := "pipeline/pipelinelaw24.ConcurrencyOrder", spec := "concurrencyOrder", inPlace := ["internal/bytealg.CountString", "internal/bytealg.IndexByteString", "internal/bytealg.IndexString", "slices.overlaps[pipeline/api.Group]"], unfollowed := true, recurses := true, named := ["unicode/utf8.first", "unicode/utf8.acceptRanges", "internal/bytealg.MaxLen"], plainKeys := false, apart := false, laid := [("unicode/utf8.acceptRanges", laid_unicode_utf8_acceptRanges), ("unicode/utf8.first", laid_unicode_utf8_first)], narrowed := true }
def ConcurrencyOrderUptoSaid : Prop := concurrencyOrderUptoRow.holds Tryd.pinned (OpenSpec.upto concurrencyOrderSpec)

end Rows
end Go.Proofs.YtbellobjajnlkaaDoor
