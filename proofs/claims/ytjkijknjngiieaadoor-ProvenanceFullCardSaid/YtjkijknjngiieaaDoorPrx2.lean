/-
  The walks of provenance: whether a link is in order, the index of a name, by the reference.
-/
import Derived.Test.YtjkijknjngiieaaDoorPrx1


namespace Go.Proofs.YtjkijknjngiieaaDoor
open Go.RowKit

/-- The index of a name, as the reference has it. -/
def idxI (ls : List Lnk) (run nm : Str) : Int := if hasL ls run nm = true then (idxL ls run nm : Int) else -1
theorem idxI_hit {ls : List Lnk} {run nm : Str} {k : Nat} {x : Lnk} (hx : ls[k]? = some x) (h : isL run nm x = true) (hf : (ls.take k).all (fun y => !isL run nm y) = true) : idxI ls run nm = (k : Int) := by
  obtain ⟨h1, h2⟩ := idx_first hx h fun j y hj hy => by
    have := List.all_eq_true.1 hf y (List.mem_of_getElem? (i := j) (by rw [List.getElem?_take, if_pos hj]; exact hy))
    simpa using this
  unfold idxI
  rw [if_pos h2, h1]
theorem idxI_miss {ls : List Lnk} {run nm : Str} (hf : ls.all (fun y => !isL run nm y) = true) : idxI ls run nm = -1 := by
  unfold idxI
  rw [if_neg]
  unfold hasL
  rw [List.any_eq_true]
  rintro ⟨x, hx, h⟩
  have := List.all_eq_true.1 hf x hx
  rw [h] at this
  cases this
end Go.Proofs.YtjkijknjngiieaaDoor
