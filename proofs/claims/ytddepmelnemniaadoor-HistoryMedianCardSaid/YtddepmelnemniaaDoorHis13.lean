/-
  The walks of histories: whether a result has a name, by the reference.
-/
import Derived.Test.YtddepmelnemniaaDoorHis12


namespace Go.Proofs.YtddepmelnemniaaDoor
open Go.RowKit

theorem hasS_no {l : List Res} {p : Str} (h : ∀ x ∈ l, x.name ≠ p) : hasS (l.map Res.name) p = false := by
  rw [Bool.eq_false_iff]
  intro e
  obtain ⟨x, hx, e2⟩ := List.mem_map.1 (hasS_iff.1 e)
  exact h x hx e2
end Go.Proofs.YtddepmelnemniaaDoor
