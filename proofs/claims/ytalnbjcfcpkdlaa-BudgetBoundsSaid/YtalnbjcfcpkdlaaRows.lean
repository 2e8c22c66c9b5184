/-
  No cell of these rows narrows 'for every input' (looked for: loops, veiled, ifaces, maps, wideKeys, modest, calm, conditions, laid).
  DERIVED. THE GIVEN ROWS OF THIS SEAT. 6 by the template 'for every input the law returns true; each argument reads behind the call as it read before'; 0 by the template 'total and deterministic' (their statements: YtalnbjcfcpkdlaaTotals.lean).
  GIVEN WITH THE SEED: the statements are not yours to turn. If you find one false, say at which input.
  Laid BY PROGRAM, IN A SANDBOX (cutbox-rows.mjs): the forced cells as the released guide's own fill.sh prints them over the translation 80bc58aab245a5ed… (all of the seat's roots in one cut). By AI agents, Wed Nov 11 2026. No macro, syntax, notation, axiom, sorry.
-/
import Derived.Test.YtalnbjcfcpkdlaaChecked
import GoSem.Claim
import GoSem.ClaimJoined
import GoSem.ClaimMapViews
import Derived.JoinedTies
import Derived.KernelRfl
namespace Go.Proofs.Ytalnbjcfcpkdlaa
/- THE CELL 'sum', in the pinned program and in every row, IS THE sha256 OF THE DUMP (.gsa) THAT YtalnbjcfcpkdlaaProg.lean LOADS. Nothing in Lean hashes anything: it is a label: what it is worth is what the hold of that sum in a sandbox is worth. -/
noncomputable def Try.pinned : Pinned := { name := "ytalnbjcfcpkdlaa", sum := "80bc58aab245a5ed2426347ba2414fa4aedbbb5b07907e24dbaea1d7a3ba54ae", checked := Try.checked }
namespace Rows
def none {H : Type} : Left H := { results := [], args := [] }

/-- 'pipelinelaw22.BudgetNew': WHATEVER THE INPUT: true; the input reads as it did. -/
def budgetNewSpec : ChangeSpec := { name := "budgetNew", fn := fun _ => fun
  | [d1, d2, d3] => { results := [.lit (.bool true)], args := [d1, d2, d3] }
  | _ => none }
def budgetNewRow : OpenClaim := { program := "ytalnbjcfcpkdlaa", sum := "80bc58aab245a5ed2426347ba2414fa4aedbbb5b07907e24dbaea1d7a3ba54ae", func := "pipeline/pipelinelaw22.BudgetNew", spec := "budgetNew", apart := false }
def BudgetNewSaid : Prop := budgetNewRow.holds Try.pinned (OpenSpec.ofChange budgetNewSpec)

/-- ITS FALSE NEIGHBOUR: 'it returns false'. Refute it at one input. -/
def budgetNewWrong : ChangeSpec := { name := "budgetNew", fn := fun _ => fun
  | [d1, d2, d3] => { results := [.lit (.bool false)], args := [d1, d2, d3] }
  | _ => none }
def BudgetNewWrongFalsely : Prop := budgetNewRow.holds Try.pinned (OpenSpec.ofChange budgetNewWrong)

/-- 'pipelinelaw22.BudgetLevels': WHATEVER THE INPUT: true; the input reads as it did. -/
def budgetLevelsSpec : ChangeSpec := { name := "budgetLevels", fn := fun _ => fun
  | [d1, d2] => { results := [.lit (.bool true)], args := [d1, d2] }
  | _ => none }
def budgetLevelsRow : OpenClaim := { program := "ytalnbjcfcpkdlaa", sum := "80bc58aab245a5ed2426347ba2414fa4aedbbb5b07907e24dbaea1d7a3ba54ae", func := "pipeline/pipelinelaw22.BudgetLevels", spec := "budgetLevels", apart := false }
def BudgetLevelsSaid : Prop := budgetLevelsRow.holds Try.pinned (OpenSpec.ofChange budgetLevelsSpec)

/-- ITS FALSE NEIGHBOUR: 'it returns false'. Refute it at one input. -/
def budgetLevelsWrong : ChangeSpec := { name := "budgetLevels", fn := fun _ => fun
  | [d1, d2] => { results := [.lit (.bool false)], args := [d1, d2] }
  | _ => none }
def BudgetLevelsWrongFalsely : Prop := budgetLevelsRow.holds Try.pinned (OpenSpec.ofChange budgetLevelsWrong)

/-- 'pipelinelaw22.BudgetWhen': WHATEVER THE INPUT: true; the input reads as it did. -/
def budgetWhenSpec : ChangeSpec := { name := "budgetWhen", fn := fun _ => fun
  | [d1, d2, d3] => { results := [.lit (.bool true)], args := [d1, d2, d3] }
  | _ => none }
def budgetWhenRow : OpenClaim := { program := "ytalnbjcfcpkdlaa", sum := "80bc58aab245a5ed2426347ba2414fa4aedbbb5b07907e24dbaea1d7a3ba54ae", func := "pipeline/pipelinelaw22.BudgetWhen", spec := "budgetWhen", apart := false }
def BudgetWhenSaid : Prop := budgetWhenRow.holds Try.pinned (OpenSpec.ofChange budgetWhenSpec)

/-- ITS FALSE NEIGHBOUR: 'it returns false'. Refute it at one input. -/
def budgetWhenWrong : ChangeSpec := { name := "budgetWhen", fn := fun _ => fun
  | [d1, d2, d3] => { results := [.lit (.bool false)], args := [d1, d2, d3] }
  | _ => none }
def BudgetWhenWrongFalsely : Prop := budgetWhenRow.holds Try.pinned (OpenSpec.ofChange budgetWhenWrong)

/-- 'pipelinelaw22.BudgetParts': WHATEVER THE INPUT: true; the input reads as it did. -/
def budgetPartsSpec : ChangeSpec := { name := "budgetParts", fn := fun _ => fun
  | [d1, d2, d3] => { results := [.lit (.bool true)], args := [d1, d2, d3] }
  | _ => none }
def budgetPartsRow : OpenClaim := { program := "ytalnbjcfcpkdlaa", sum := "80bc58aab245a5ed2426347ba2414fa4aedbbb5b07907e24dbaea1d7a3ba54ae", func := "pipeline/pipelinelaw22.BudgetParts", spec := "budgetParts", apart := false }
def BudgetPartsSaid : Prop := budgetPartsRow.holds Try.pinned (OpenSpec.ofChange budgetPartsSpec)

/-- ITS FALSE NEIGHBOUR: 'it returns false'. Refute it at one input. -/
def budgetPartsWrong : ChangeSpec := { name := "budgetParts", fn := fun _ => fun
  | [d1, d2, d3] => { results := [.lit (.bool false)], args := [d1, d2, d3] }
  | _ => none }
def BudgetPartsWrongFalsely : Prop := budgetPartsRow.holds Try.pinned (OpenSpec.ofChange budgetPartsWrong)

/-- 'pipelinelaw22.BudgetBounds': WHATEVER THE INPUT: true; the input reads as it did. -/
def budgetBoundsSpec : ChangeSpec := { name := "budgetBounds", fn := fun _ => fun
  | [d1, d2] => { results := [.lit (.bool true)], args := [d1, d2] }
  | _ => none }
def budgetBoundsRow : OpenClaim := { program := "ytalnbjcfcpkdlaa", sum := "80bc58aab245a5ed2426347ba2414fa4aedbbb5b07907e24dbaea1d7a3ba54ae", func := "pipeline/pipelinelaw22.BudgetBounds", spec := "budgetBounds", apart := false }
def BudgetBoundsSaid : Prop := budgetBoundsRow.holds Try.pinned (OpenSpec.ofChange budgetBoundsSpec)

/-- ITS FALSE NEIGHBOUR: 'it returns false'. Refute it at one input. -/
def budgetBoundsWrong : ChangeSpec := { name := "budgetBounds", fn := fun _ => fun
  | [d1, d2] => { results := [.lit (.bool false)], args := [d1, d2] }
  | _ => none }
def BudgetBoundsWrongFalsely : Prop := budgetBoundsRow.holds Try.pinned (OpenSpec.ofChange budgetBoundsWrong)

/-- 'pipelinelaw22.BudgetSpends': WHATEVER THE INPUT: true; the input reads as it did. -/
def budgetSpendsSpec : ChangeSpec := { name := "budgetSpends", fn := fun _ => fun
  | [d1, d2, d3] => { results := [.lit (.bool true)], args := [d1, d2, d3] }
  | _ => none }
def budgetSpendsRow : OpenClaim := { program := "ytalnbjcfcpkdlaa", sum := "80bc58aab245a5ed2426347ba2414fa4aedbbb5b07907e24dbaea1d7a3ba54ae", func := "pipeline/pipelinelaw22.BudgetSpends", spec := "budgetSpends", apart := false }
def BudgetSpendsSaid : Prop := budgetSpendsRow.holds Try.pinned (OpenSpec.ofChange budgetSpendsSpec)

/-- ITS FALSE NEIGHBOUR: 'it returns false'. Refute it at one input. -/
def budgetSpendsWrong : ChangeSpec := { name := "budgetSpends", fn := fun _ => fun
  | [d1, d2, d3] => { results := [.lit (.bool false)], args := [d1, d2, d3] }
  | _ => none }
def BudgetSpendsWrongFalsely : Prop := budgetSpendsRow.holds Try.pinned (OpenSpec.ofChange budgetSpendsWrong)

/- THE SECOND FORM. 'bulk': how many values and letters a reading holds, each counted each time it is reached (what is shared counts as often as it is met; a slice's spare places count too). A statement '..UptoSaid' is the law's where the arguments, and the package variables that the reading takes, are together of bulk at most 1048576: NARROWER than '..Said'. Prove '..Said' where nothing that the law and all that it calls make is longer than what came in: it says more and counts as full. Else prove '..UptoSaid'. A law counts once. -/
mutual
def uptoBulk {H : Type} : DataW H → Nat
  | .lit (.string bytes) => bytes.length + 1
  | .lit _ => 1
  | .nil => 1
  | .ptr d => uptoBulk d + 1
  | .slice elems spare => uptoBulkAll elems + uptoBulkAll spare + 1
  | .agg parts => uptoBulkAll parts + 1
  | .iface _ d => uptoBulk d + 1
  | .map entries => uptoBulkEntries entries + 1
  | .held _ => 1
def uptoBulkAll {H : Type} : List (DataW H) → Nat
  | [] => 0
  | d :: r => uptoBulk d + uptoBulkAll r
def uptoBulkEntries {H : Type} : List (Lit × DataW H) → Nat
  | [] => 0
  | x :: r => uptoBulkEntry x + uptoBulkEntries r
def uptoBulkEntry {H : Type} : Lit × DataW H → Nat
  | (.string bytes, d) => bytes.length + uptoBulk d + 1
  | (_, d) => uptoBulk d + 1
 end
def uptoSmall : (H : Type) → List (DataW H) → Bool := fun _ ds => decide (uptoBulkAll ds ≤ 1048576)
def OpenSpec.upto (s : _root_.Go.ChangeSpec) : _root_.Go.OpenSpec := { _root_.Go.OpenSpec.ofChange s with cond := some uptoSmall }

/-- 'pipelinelaw22.BudgetNew', WHERE WHAT IT READS IS OF BULK AT MOST 1048576: true; the input reads as it did. -/
def budgetNewUptoRow : OpenClaim := { program := "ytalnbjcfcpkdlaa", sum := "80bc58aab245a5ed2426347ba2414fa4aedbbb5b07907e24dbaea1d7a3ba54ae", func := "pipeline/pipelinelaw22.BudgetNew", spec := "budgetNew", apart := false, narrowed := true }
def BudgetNewUptoSaid : Prop := budgetNewUptoRow.holds Try.pinned (OpenSpec.upto budgetNewSpec)

/-- 'pipelinelaw22.BudgetLevels', WHERE WHAT IT READS IS OF BULK AT MOST 1048576: true; the input reads as it did. -/
def budgetLevelsUptoRow : OpenClaim := { program := "ytalnbjcfcpkdlaa", sum := "80bc58aab245a5ed2426347ba2414fa4aedbbb5b07907e24dbaea1d7a3ba54ae", func := "pipeline/pipelinelaw22.BudgetLevels", spec := "budgetLevels", apart := false, narrowed := true }
def BudgetLevelsUptoSaid : Prop := budgetLevelsUptoRow.holds Try.pinned (OpenSpec.upto budgetLevelsSpec)

/-- 'pipelinelaw22.BudgetWhen', WHERE WHAT IT READS IS OF BULK AT MOST 1048576: true; the input reads as it did. -/
def budgetWhenUptoRow : OpenClaim := { program := "ytalnbjcfcpkdlaa", sum := "80bc58aab245a5ed2426347ba2414fa4aedbbb5b07907e24dbaea1d7a3ba54ae", func := "pipeline/pipelinelaw22.BudgetWhen", spec := "budgetWhen", apart := false, narrowed := true }
def BudgetWhenUptoSaid : Prop := budgetWhenUptoRow.holds Try.pinned (OpenSpec.upto budgetWhenSpec)

/-- 'pipelinelaw22.BudgetParts', WHERE WHAT IT READS IS OF BULK AT MOST 1048576: true; the input reads as it did. -/
def budgetPartsUptoRow : OpenClaim := { program := "ytalnbjcfcpkdlaa", sum := "80bc58aab245a5ed2426347ba2414fa4aedbbb5b07907e24dbaea1d7a3ba54ae", func := "pipeline/pipelinelaw22.BudgetParts", spec := "budgetParts", apart := false, narrowed := true }
def BudgetPartsUptoSaid : Prop := budgetPartsUptoRow.holds Try.pinned (OpenSpec.upto budgetPartsSpec)

/-- 'pipelinelaw22.BudgetBounds', WHERE WHAT IT READS IS OF BULK AT MOST 1048576: true; the input reads as it did. -/
def budgetBoundsUptoRow : OpenClaim := { program := "ytalnbjcfcpkdlaa", sum := "80bc58aab245a5ed2426347ba2414fa4aedbbb5b07907e24dbaea1d7a3ba54ae", func := "pipeline/pipelinelaw22.BudgetBounds", spec := "budgetBounds", apart := false, narrowed := true }
def BudgetBoundsUptoSaid : Prop := budgetBoundsUptoRow.holds Try.pinned (OpenSpec.upto budgetBoundsSpec)

/-- 'pipelinelaw22.BudgetSpends', WHERE WHAT IT READS IS OF BULK AT MOST 1048576: true; the input reads as it did. -/
def budgetSpendsUptoRow : OpenClaim := { program := "ytalnbjcfcpkdlaa", sum := "80bc58aab245a5ed2426347ba2414fa4aedbbb5b07907e24dbaea1d7a3ba54ae", func := "pipeline/pipelinelaw22.BudgetSpends", spec := "budgetSpends", apart := false, narrowed := true }
def BudgetSpendsUptoSaid : Prop := budgetSpendsUptoRow.holds Try.pinned (OpenSpec.upto budgetSpendsSpec)

end Rows
end Go.Proofs.Ytalnbjcfcpkdlaa
