/-
  The walks of histories: the reference's sample.
-/
import Derived.Test.YtddepmelnemniaaDoorHis6


namespace Go.Proofs.YtddepmelnemniaaDoor
open Go.RowKit

theorem smpErr_def (s : Samp) (last : Int) : smpErr s last = if s.status.1 < 1 ∨ 3 < s.status.1 then 1 else if s.time.1 < 0 ∨ 1125899906842624 < s.time.1 ∨ s.stamp.1 < 0 ∨ 1125899906842624 < s.stamp.1 then 2 else if s.stamp.1 < last then 22 else 0 := by
  have h : (timeB s.time.1 = false ∨ timeB s.stamp.1 = false) ↔ (s.time.1 < 0 ∨ 1125899906842624 < s.time.1 ∨ s.stamp.1 < 0 ∨ 1125899906842624 < s.stamp.1) := by
    unfold timeB
    simp only [Bool.and_eq_false_iff, decide_eq_false_iff_not]
    omega
  unfold smpErr
  simp only [h]
end Go.Proofs.YtddepmelnemniaaDoor
