/-
  The walks of histories: whether histories are valid, by the reference.
-/
import Derived.Test.YtddepmelnemniaaDoorHis9


namespace Go.Proofs.YtddepmelnemniaaDoor
open Go.RowKit

end Go.Proofs.YtddepmelnemniaaDoor
