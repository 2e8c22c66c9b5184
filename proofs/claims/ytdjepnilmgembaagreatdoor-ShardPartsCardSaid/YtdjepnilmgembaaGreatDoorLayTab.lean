/-
  What the witness of a row that lists tables wants: the heap with each listed table's cells laid in its block.
-/
import Derived.Test.YtdjepnilmgembaaGreatDoorCards
import Derived.Test.YtdjepnilmgembaaGreatDoorTie
import Derived.Test.YtdjepnilmgembaaGreatDoorBase1
import Derived.Deep.DeepHandedRow
import Derived.Lib.LaidTab
namespace Go.Proofs.YtdjepnilmgembaaGreatDoor
/-- The cells of a table's datum, row by row. -/
def flatD {H : Type} : Nat → DataW H → List Value
  | 0, _ => []
  | _ + 1, .lit (.int k n) => [.int k n]
  | m + 1, .agg ds => ds.flatMap (flatD m)
  | _ + 1, _ => []
/-- Each listed table laid in its block. -/
def layAll (P : Program) (laid : List (String × DataW Unit)) (heap : Array Obj) : Array Obj :=
  laid.foldl (fun h x => match P.globalNamed x.1 with
    | some b => h.modify b fun
      | .cells _ t frozen => .cells (flatD 4 x.2).toArray t frozen
      | o => o
    | none => h) heap
end Go.Proofs.YtdjepnilmgembaaGreatDoor
