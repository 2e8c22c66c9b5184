/-
  The walks of histories: the index of a name, by the reference.
-/
import Derived.Test.YtddepmelnemniaaDoorHis10


namespace Go.Proofs.YtddepmelnemniaaDoor
open Go.RowKit

end Go.Proofs.YtddepmelnemniaaDoor
