/-
  The walks of provenance: a link looked up, what is reached, by the reference.
-/
import Derived.Test.YtjkijknjngiieaaDoorPrx3


namespace Go.Proofs.YtjkijknjngiieaaDoor
open Go.RowKit

theorem idxI_yes {ls : List Lnk} {run nm : Str} (h : hasL ls run nm = true) : idxI ls run nm = (idxL ls run nm : Int) := by unfold idxI; rw [if_pos h]
theorem idxI_no {ls : List Lnk} {run nm : Str} (h : hasL ls run nm = false) : idxI ls run nm = -1 := by unfold idxI; rw [if_neg (by rw [h]; decide)]
end Go.Proofs.YtjkijknjngiieaaDoor
