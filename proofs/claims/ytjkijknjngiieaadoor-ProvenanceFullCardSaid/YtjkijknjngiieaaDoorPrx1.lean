/-
  The walks of provenance: paths, files, names, sizes, the index of a name, by the reference.
-/
import Derived.Test.YtjkijknjngiieaaDoorPrw13
import Derived.Test.YtjkijknjngiieaaDoorPar2


namespace Go.Proofs.YtjkijknjngiieaaDoor
open Go.RowKit

theorem path_one (s : Str) : (pathB s && decide (1 ≤ (parts s).length)) = pathB s := by
  have : 1 ≤ (parts s).length := by
    have := parts_ne s
    cases h : parts s with
    | nil => exact absurd h this
    | cons a l => simp
  rw [decide_eq_true this, Bool.and_true]
/-- A file's path as the reference has it. -/
theorem file_small {s : Str} (h : s.1.size < 5) : fileS s = none := by
  unfold fileS
  rw [if_neg]
  rintro ⟨h5, _⟩
  have := congrArg List.length h5
  rw [List.length_take, Array.length_toList] at this
  have e : s.1.data.size = s.1.size := rfl
  simp only [List.length_cons, List.length_nil] at this
  omega
end Go.Proofs.YtjkijknjngiieaaDoor
