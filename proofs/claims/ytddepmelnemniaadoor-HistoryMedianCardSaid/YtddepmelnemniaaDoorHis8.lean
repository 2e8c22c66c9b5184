/-
  The walks of histories: whether a name is a path, by the reference.
-/
import Derived.Test.YtddepmelnemniaaDoorHis7


namespace Go.Proofs.YtddepmelnemniaaDoor
open Go.RowKit

theorem pathB_eq (s : Str) : (pathE s == 0) = pathB s := by
  unfold pathB
  rw [Bool.eq_iff_iff, beq_iff_eq, decide_eq_true_eq]
end Go.Proofs.YtddepmelnemniaaDoor
