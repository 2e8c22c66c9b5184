/-
  The walks of histories: whether results are valid, by the reference.
-/
import Derived.Test.YtddepmelnemniaaDoorHis16



namespace Go.Proofs.YtddepmelnemniaaDoor
open Go.RowKit

end Go.Proofs.YtddepmelnemniaaDoor
