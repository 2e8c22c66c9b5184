/-
  No cell of these rows narrows 'for every input' (looked for: loops, veiled, ifaces, maps, wideKeys, modest, calm, conditions, laid).
  DERIVED. THE GIVEN ROWS OF THIS SEAT. 7 by the template 'for every input the law returns true; each argument reads behind the call as it read before'; 0 by the template 'total and deterministic' (their statements: YtebpdoehjgkkcaaTotals.lean).
  GIVEN WITH THE SEED: the statements are not yours to turn. If you find one false, say at which input.
  Laid BY PROGRAM, IN A SANDBOX (cutbox-rows.mjs): the forced cells as the released guide's own fill.sh prints them over the translation 9a01c28c346136f0… (all of the seat's roots in one cut). By AI agents, Wed Nov 11 2026. No macro, syntax, notation, axiom, sorry.
-/
import Derived.Test.YtebpdoehjgkkcaaChecked
import GoSem.Claim
import GoSem.ClaimJoined
import GoSem.ClaimMapViews
import Derived.JoinedTies
import Derived.KernelRfl
namespace Go.Proofs.Ytebpdoehjgkkcaa
/- THE CELL 'sum', in the pinned program and in every row, IS THE sha256 OF THE DUMP (.gsa) THAT YtebpdoehjgkkcaaProg.lean LOADS. Nothing in Lean hashes anything: it is a label: what it is worth is what the hold of that sum in a sandbox is worth. -/
noncomputable def Try.pinned : Pinned := { name := "ytebpdoehjgkkcaa", sum := "9a01c28c346136f0bcdb802f76676b43a63b8936c06e6bcf850282330eb26149", checked := Try.checked }
namespace Rows
def none {H : Type} : Left H := { results := [], args := [] }

/-- 'pipelinelaw01.NumLess': WHATEVER THE INPUT: true; the input reads as it did. -/
def numLessSpec : ChangeSpec := { name := "numLess", fn := fun _ => fun
  | [d] => { results := [.lit (.bool true)], args := [d] }
  | _ => none }
def numLessRow : OpenClaim := { program := "ytebpdoehjgkkcaa", sum := "9a01c28c346136f0bcdb802f76676b43a63b8936c06e6bcf850282330eb26149", func := "pipeline/pipelinelaw01.NumLess", spec := "numLess", apart := false }
def NumLessSaid : Prop := numLessRow.holds Try.pinned (OpenSpec.ofChange numLessSpec)

/-- ITS FALSE NEIGHBOUR: 'it returns false'. Refute it at one input. -/
def numLessWrong : ChangeSpec := { name := "numLess", fn := fun _ => fun
  | [d] => { results := [.lit (.bool false)], args := [d] }
  | _ => none }
def NumLessWrongFalsely : Prop := numLessRow.holds Try.pinned (OpenSpec.ofChange numLessWrong)

/-- 'pipelinelaw01.NumOrder': WHATEVER THE INPUT: true; the input reads as it did. -/
def numOrderSpec : ChangeSpec := { name := "numOrder", fn := fun _ => fun
  | [d] => { results := [.lit (.bool true)], args := [d] }
  | _ => none }
def numOrderRow : OpenClaim := { program := "ytebpdoehjgkkcaa", sum := "9a01c28c346136f0bcdb802f76676b43a63b8936c06e6bcf850282330eb26149", func := "pipeline/pipelinelaw01.NumOrder", spec := "numOrder", apart := false }
def NumOrderSaid : Prop := numOrderRow.holds Try.pinned (OpenSpec.ofChange numOrderSpec)

/-- ITS FALSE NEIGHBOUR: 'it returns false'. Refute it at one input. -/
def numOrderWrong : ChangeSpec := { name := "numOrder", fn := fun _ => fun
  | [d] => { results := [.lit (.bool false)], args := [d] }
  | _ => none }
def NumOrderWrongFalsely : Prop := numOrderRow.holds Try.pinned (OpenSpec.ofChange numOrderWrong)

/-- 'pipelinelaw01.NumScale': WHATEVER THE INPUT: true; the input reads as it did. -/
def numScaleSpec : ChangeSpec := { name := "numScale", fn := fun _ => fun
  | [d1, d2, d3] => { results := [.lit (.bool true)], args := [d1, d2, d3] }
  | _ => none }
def numScaleRow : OpenClaim := { program := "ytebpdoehjgkkcaa", sum := "9a01c28c346136f0bcdb802f76676b43a63b8936c06e6bcf850282330eb26149", func := "pipeline/pipelinelaw01.NumScale", spec := "numScale", apart := false }
def NumScaleSaid : Prop := numScaleRow.holds Try.pinned (OpenSpec.ofChange numScaleSpec)

/-- ITS FALSE NEIGHBOUR: 'it returns false'. Refute it at one input. -/
def numScaleWrong : ChangeSpec := { name := "numScale", fn := fun _ => fun
  | [d1, d2, d3] => { results := [.lit (.bool false)], args := [d1, d2, d3] }
  | _ => none }
def NumScaleWrongFalsely : Prop := numScaleRow.holds Try.pinned (OpenSpec.ofChange numScaleWrong)

/-- 'pipelinelaw01.NumFloor': WHATEVER THE INPUT: true; the input reads as it did. -/
def numFloorSpec : ChangeSpec := { name := "numFloor", fn := fun _ => fun
  | [d1, d2, d3] => { results := [.lit (.bool true)], args := [d1, d2, d3] }
  | _ => none }
def numFloorRow : OpenClaim := { program := "ytebpdoehjgkkcaa", sum := "9a01c28c346136f0bcdb802f76676b43a63b8936c06e6bcf850282330eb26149", func := "pipeline/pipelinelaw01.NumFloor", spec := "numFloor", apart := false }
def NumFloorSaid : Prop := numFloorRow.holds Try.pinned (OpenSpec.ofChange numFloorSpec)

/-- ITS FALSE NEIGHBOUR: 'it returns false'. Refute it at one input. -/
def numFloorWrong : ChangeSpec := { name := "numFloor", fn := fun _ => fun
  | [d1, d2, d3] => { results := [.lit (.bool false)], args := [d1, d2, d3] }
  | _ => none }
def NumFloorWrongFalsely : Prop := numFloorRow.holds Try.pinned (OpenSpec.ofChange numFloorWrong)

/-- 'pipelinelaw01.NumDivides': WHATEVER THE INPUT: true; the input reads as it did. -/
def numDividesSpec : ChangeSpec := { name := "numDivides", fn := fun _ => fun
  | [d1, d2, d3] => { results := [.lit (.bool true)], args := [d1, d2, d3] }
  | _ => none }
def numDividesRow : OpenClaim := { program := "ytebpdoehjgkkcaa", sum := "9a01c28c346136f0bcdb802f76676b43a63b8936c06e6bcf850282330eb26149", func := "pipeline/pipelinelaw01.NumDivides", spec := "numDivides", apart := false }
def NumDividesSaid : Prop := numDividesRow.holds Try.pinned (OpenSpec.ofChange numDividesSpec)

/-- ITS FALSE NEIGHBOUR: 'it returns false'. Refute it at one input. -/
def numDividesWrong : ChangeSpec := { name := "numDivides", fn := fun _ => fun
  | [d1, d2, d3] => { results := [.lit (.bool false)], args := [d1, d2, d3] }
  | _ => none }
def NumDividesWrongFalsely : Prop := numDividesRow.holds Try.pinned (OpenSpec.ofChange numDividesWrong)

/-- 'pipelinelaw01.NumLimits': WHATEVER THE INPUT: true; the input reads as it did. -/
def numLimitsSpec : ChangeSpec := { name := "numLimits", fn := fun _ => fun
  | [d1, d2, d3] => { results := [.lit (.bool true)], args := [d1, d2, d3] }
  | _ => none }
def numLimitsRow : OpenClaim := { program := "ytebpdoehjgkkcaa", sum := "9a01c28c346136f0bcdb802f76676b43a63b8936c06e6bcf850282330eb26149", func := "pipeline/pipelinelaw01.NumLimits", spec := "numLimits", apart := false }
def NumLimitsSaid : Prop := numLimitsRow.holds Try.pinned (OpenSpec.ofChange numLimitsSpec)

/-- ITS FALSE NEIGHBOUR: 'it returns false'. Refute it at one input. -/
def numLimitsWrong : ChangeSpec := { name := "numLimits", fn := fun _ => fun
  | [d1, d2, d3] => { results := [.lit (.bool false)], args := [d1, d2, d3] }
  | _ => none }
def NumLimitsWrongFalsely : Prop := numLimitsRow.holds Try.pinned (OpenSpec.ofChange numLimitsWrong)

/-- 'pipelinelaw01.NumSums': WHATEVER THE INPUT: true; the input reads as it did. -/
def numSumsSpec : ChangeSpec := { name := "numSums", fn := fun _ => fun
  | [d1, d2] => { results := [.lit (.bool true)], args := [d1, d2] }
  | _ => none }
def numSumsRow : OpenClaim := { program := "ytebpdoehjgkkcaa", sum := "9a01c28c346136f0bcdb802f76676b43a63b8936c06e6bcf850282330eb26149", func := "pipeline/pipelinelaw01.NumSums", spec := "numSums", apart := false }
def NumSumsSaid : Prop := numSumsRow.holds Try.pinned (OpenSpec.ofChange numSumsSpec)

/-- ITS FALSE NEIGHBOUR: 'it returns false'. Refute it at one input. -/
def numSumsWrong : ChangeSpec := { name := "numSums", fn := fun _ => fun
  | [d1, d2] => { results := [.lit (.bool false)], args := [d1, d2] }
  | _ => none }
def NumSumsWrongFalsely : Prop := numSumsRow.holds Try.pinned (OpenSpec.ofChange numSumsWrong)

/- THE SECOND FORM. 'bulk': how many values and letters a reading holds, each counted each time it is reached (what is shared counts as often as it is met; a slice's spare places count too). A statement '..UptoSaid' is the law's where the arguments, and the package variables that the reading takes, are together of bulk at most 1048576: NARROWER than '..Said'. Prove '..Said' where nothing that the law and all that it calls make is longer than what came in: it says more and counts as full. Else prove '..UptoSaid'. A law counts once. -/
mutual
def uptoBulk {H : Type} : DataW H → Nat
  | .lit (.string bytes) => bytes.length + 1
  | .lit _ => 1
  | .nil => 1
  | .ptr d => uptoBulk d + 1
  | .slice elems spare => uptoBulkAll elems + uptoBulkAll spare + 1
  | .agg parts => uptoBulkAll parts + 1
  | .iface _ d => uptoBulk d + 1
  | .map entries => uptoBulkEntries entries + 1
  | .held _ => 1
def uptoBulkAll {H : Type} : List (DataW H) → Nat
  | [] => 0
  | d :: r => uptoBulk d + uptoBulkAll r
def uptoBulkEntries {H : Type} : List (Lit × DataW H) → Nat
  | [] => 0
  | x :: r => uptoBulkEntry x + uptoBulkEntries r
def uptoBulkEntry {H : Type} : Lit × DataW H → Nat
  | (.string bytes, d) => bytes.length + uptoBulk d + 1
  | (_, d) => uptoBulk d + 1
 end
def uptoSmall : (H : Type) → List (DataW H) → Bool := fun _ ds => decide (uptoBulkAll ds ≤ 1048576)
def OpenSpec.upto (s : _root_.Go.ChangeSpec) : _root_.Go.OpenSpec := { _root_.Go.OpenSpec.ofChange s with cond := some uptoSmall }

/-- 'pipelinelaw01.NumLess', WHERE WHAT IT READS IS OF BULK AT MOST 1048576: true; the input reads as it did. -/
def numLessUptoRow : OpenClaim := { program := "ytebpdoehjgkkcaa", sum := "9a01c28c346136f0bcdb802f76676b43a63b8936c06e6bcf850282330eb26149", func := "pipeline/pipelinelaw01.NumLess", spec := "numLess", apart := false, narrowed := true }
def NumLessUptoSaid : Prop := numLessUptoRow.holds Try.pinned (OpenSpec.upto numLessSpec)

/-- 'pipelinelaw01.NumOrder', WHERE WHAT IT READS IS OF BULK AT MOST 1048576: true; the input reads as it did. -/
def numOrderUptoRow : OpenClaim := { program := "ytebpdoehjgkkcaa", sum := "9a01c28c346136f0bcdb802f76676b43a63b8936c06e6bcf850282330eb26149", func := "pipeline/pipelinelaw01.NumOrder", spec := "numOrder", apart := false, narrowed := true }
def NumOrderUptoSaid : Prop := numOrderUptoRow.holds Try.pinned (OpenSpec.upto numOrderSpec)

/-- 'pipelinelaw01.NumScale', WHERE WHAT IT READS IS OF BULK AT MOST 1048576: true; the input reads as it did. -/
def numScaleUptoRow : OpenClaim := { program := "ytebpdoehjgkkcaa", sum := "9a01c28c346136f0bcdb802f76676b43a63b8936c06e6bcf850282330eb26149", func := "pipeline/pipelinelaw01.NumScale", spec := "numScale", apart := false, narrowed := true }
def NumScaleUptoSaid : Prop := numScaleUptoRow.holds Try.pinned (OpenSpec.upto numScaleSpec)

/-- 'pipelinelaw01.NumFloor', WHERE WHAT IT READS IS OF BULK AT MOST 1048576: true; the input reads as it did. -/
def numFloorUptoRow : OpenClaim := { program := "ytebpdoehjgkkcaa", sum := "9a01c28c346136f0bcdb802f76676b43a63b8936c06e6bcf850282330eb26149", func := "pipeline/pipelinelaw01.NumFloor", spec := "numFloor", apart := false, narrowed := true }
def NumFloorUptoSaid : Prop := numFloorUptoRow.holds Try.pinned (OpenSpec.upto numFloorSpec)

/-- 'pipelinelaw01.NumDivides', WHERE WHAT IT READS IS OF BULK AT MOST 1048576: true; the input reads as it did. -/
def numDividesUptoRow : OpenClaim := { program := "ytebpdoehjgkkcaa", sum := "9a01c28c346136f0bcdb802f76676b43a63b8936c06e6bcf850282330eb26149", func := "pipeline/pipelinelaw01.NumDivides", spec := "numDivides", apart := false, narrowed := true }
def NumDividesUptoSaid : Prop := numDividesUptoRow.holds Try.pinned (OpenSpec.upto numDividesSpec)

/-- 'pipelinelaw01.NumLimits', WHERE WHAT IT READS IS OF BULK AT MOST 1048576: true; the input reads as it did. -/
def numLimitsUptoRow : OpenClaim := { program := "ytebpdoehjgkkcaa", sum := "9a01c28c346136f0bcdb802f76676b43a63b8936c06e6bcf850282330eb26149", func := "pipeline/pipelinelaw01.NumLimits", spec := "numLimits", apart := false, narrowed := true }
def NumLimitsUptoSaid : Prop := numLimitsUptoRow.holds Try.pinned (OpenSpec.upto numLimitsSpec)

/-- 'pipelinelaw01.NumSums', WHERE WHAT IT READS IS OF BULK AT MOST 1048576: true; the input reads as it did. -/
def numSumsUptoRow : OpenClaim := { program := "ytebpdoehjgkkcaa", sum := "9a01c28c346136f0bcdb802f76676b43a63b8936c06e6bcf850282330eb26149", func := "pipeline/pipelinelaw01.NumSums", spec := "numSums", apart := false, narrowed := true }
def NumSumsUptoSaid : Prop := numSumsUptoRow.holds Try.pinned (OpenSpec.upto numSumsSpec)

end Rows
end Go.Proofs.Ytebpdoehjgkkcaa
