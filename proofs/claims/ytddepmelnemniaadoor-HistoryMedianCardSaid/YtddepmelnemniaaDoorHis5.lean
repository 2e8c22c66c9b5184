/-
  The walks of histories: times.
-/
import Derived.Test.YtddepmelnemniaaDoorHisP
import Derived.Test.YtddepmelnemniaaDoorPar2


namespace Go.Proofs.YtddepmelnemniaaDoor
open Go.RowKit

set_option maxHeartbeats 400000 in
theorem limit_any (n lo hi : Int) (w : World) :
    Calls Tryd.prog 34 #[.int .i64 n, .int .i64 lo, .int .i64 hi] w fun e w' => e = .returned (.int .i64 (max lo (min n hi))) ∧ w = w' := by
  go_enter Tryd.func34, Tryd.ntmps34
  go_wp2
  all_goals
    go_ret
    refine ⟨ret_int ?_, rfl⟩
    omega
theorem time_any (n : Int) (w : World) : Calls Tryd.prog 17 #[.int .i64 n] w fun e w' => e = .returned (.bool (timeB n)) ∧ w = w' := by
  have hT : (n == max 0 (min n 1125899906842624)) = timeB n := by
    unfold timeB
    rw [Bool.eq_iff_iff, beq_iff_eq, Bool.and_eq_true, decide_eq_true_eq, decide_eq_true_eq]
    omega
  obtain ⟨T, hT2⟩ : ∃ T, timeB n = T := ⟨_, rfl⟩
  rw [hT2] at hT ⊢
  replace hT2 := Lib.hid hT2
  go_enter Tryd.func17, Tryd.ntmps17
  go_wp2_with (go_at_call 34; go_must (refine (limit_any _ _ _ _).mono ?_; rintro e w' ⟨rfl, rfl⟩))
  go_ret
  exact ⟨rfl, rfl⟩
end Go.Proofs.YtddepmelnemniaaDoor
