/-
  The walks of histories: one history, by the reference.
-/
import Derived.Test.YtddepmelnemniaaDoorHis8



namespace Go.Proofs.YtddepmelnemniaaDoor
open Go.RowKit

end Go.Proofs.YtddepmelnemniaaDoor
