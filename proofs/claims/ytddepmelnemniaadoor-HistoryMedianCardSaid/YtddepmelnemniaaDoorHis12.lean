/-
  The walks of histories: a history is looked up, by the reference.
-/
import Derived.Test.YtddepmelnemniaaDoorHis11


namespace Go.Proofs.YtddepmelnemniaaDoor
open Go.RowKit

/-- The history of a name as it is returned, and whether there is one. -/
def foundV (o : Option Hst) : Value := match o with | some x => .tuple #[.agg #[.string x.name.1, .slice x.lA x.l.length x.lC], .bool true] | none => .tuple #[.agg #[.string ByteArray.empty, .slice none 0 0], .bool false]
def atH (l : List Hst) (p : Str) : Option Hst := if findN p (l.map Hst.h) < 0 then none else l[(findN p (l.map Hst.h)).toNat]?
end Go.Proofs.YtddepmelnemniaaDoor
